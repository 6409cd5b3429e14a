/- Contracts and plain facts, joined: TurnZ. -/
import Derived.Test.YtcjekailcljaaaaGreatRows
import Derived.Test.YtcjekailcljaaaaGreatZFnExactGreedyPlanI
import Derived.Test.YtcjekailcljaaaaGreatZFnExactGreedyPlanV
namespace Go.Proofs.YtcjekailcljaaaaGreat
open Go.ChangeShapes Go.WideShapes Go.ChangeAt Go.RowKit Go.Deep Go.Joins
set_option linter.unusedVariables false
set_option maxRecDepth 100000
set_option linter.unusedSimpArgs false
def zoneK (zs : List Int) (r : Int) : Nat → Nat
  | 0 => 0
  | j + 1 => if zs.getD j 0 ≤ r then j else zoneK zs r j
def zoneOf (zs : List Int) (r : Int) : Nat := zoneK zs r zs.length
theorem zoneK_succ {zs : List Int} {r : Int} {j : Nat} (h : j < zs.length) : zoneK zs r (j + 1) = if zs[j] ≤ r then j else zoneK zs r j := by
  show (if zs.getD j 0 ≤ r then j else zoneK zs r j) = _
  rw [List.getD_eq_getElem?_getD, List.getElem?_eq_getElem h]; rfl
theorem zoneK_lt (zs : List Int) (r : Int) : ∀ j, 0 < j → zoneK zs r j < j
  | 0, h => by omega
  | j + 1, _ => by
    show (if zs.getD j 0 ≤ r then j else zoneK zs r j) < j + 1
    split
    · omega
    · by_cases h : 0 < j
      · have := zoneK_lt zs r j h; omega
      · obtain rfl : j = 0 := by omega
        show zoneK zs r 0 < 1
        exact Nat.lt_succ_self 0
theorem zoneOf_lt {zs : List Int} (r : Int) (h : 1 ≤ zs.length) : zoneOf zs r < zs.length := zoneK_lt zs r _ h
/-- zones that rise -/
theorem rise_mono {lo hi : Int} {zs : List Int} (h : riseG lo hi zs = true) : ∀ (j : Nat) (hj : j < zs.length) (i : Nat) (hi : i < j), zs[i]'(by omega) < zs[j]
  | 0, _, i, hi => by omega
  | j + 1, hj, i, hij => by
    have h1 := riseG_lt h (j + 1) hj (by omega)
    simp only [Nat.add_sub_cancel] at h1
    rcases Nat.lt_or_eq_of_le (Nat.le_of_lt_succ hij) with q | q
    · have := rise_mono h j (by omega) i q
      omega
    · subst q; exact h1
theorem zoneOf_at {lo hi : Int} {zs : List Int} (h : riseG lo hi zs = true) {z : Nat} (hz : z < zs.length) {r : Int} (h1 : zs[z] ≤ r) (h2 : ∀ (h : z + 1 < zs.length), r < zs[z + 1]) : zoneOf zs r = z := by
  have key : ∀ j, z < j → j ≤ zs.length → zoneK zs r j = z := by
    intro j
    induction j with
    | zero => intro h; omega
    | succ j ih =>
      intro hj hl
      rw [zoneK_succ (show j < zs.length by omega)]
      by_cases hjz : j = z
      · subst hjz; rw [if_pos h1]
      · have hz1 : z + 1 < zs.length := by omega
        have h3 := h2 hz1
        have h4 : zs[z + 1] ≤ zs[j]'(by omega) := by
          by_cases q : z + 1 = j
          · subst q; exact Int.le_refl _
          · exact Int.le_of_lt (rise_mono h j (by omega) (z + 1) (by omega))
        rw [if_neg (by omega)]
        exact ih (by omega) (by omega)
  exact key _ hz (Nat.le_refl _)
def turnR (st : List Int) (z : Nat) (r : Ring) : Ring := ⟨r.outer, r.inner + 10 * st.getD z 0, r.height⟩
/-- the first k rings are turned -/
def midT (zs st : List Int) (rs : List Ring) (k : Nat) : List Ring := rs.mapIdx fun i r => if i < k then turnR st (zoneOf zs i) r else r
def turnedS (zs st : List Int) (rs : List Ring) : List Ring := midT zs st rs rs.length
theorem midT_len (zs st : List Int) (rs : List Ring) (k : Nat) : (midT zs st rs k).length = rs.length := by unfold midT; rw [List.length_mapIdx]
theorem midT_get (zs st : List Int) (rs : List Ring) (k i : Nat) (h : i < (midT zs st rs k).length) (hi : i < rs.length) : (midT zs st rs k)[i] = if i < k then turnR st (zoneOf zs i) rs[i] else rs[i] := by
  simp only [midT, List.getElem_mapIdx]
theorem midT_zero (zs st : List Int) (rs : List Ring) : midT zs st rs 0 = rs := by
  refine List.ext_getElem (midT_len ..) fun i h1 h2 => ?_
  rw [midT_get zs st rs 0 i h1 h2, if_neg (Nat.not_lt_zero _)]
theorem midT_at (zs st : List Int) {rs : List Ring} {k : Nat} (hk : k < rs.length) : (midT zs st rs k)[k]'(by rw [midT_len]; exact hk) = rs[k] := by
  rw [midT_get zs st rs k k _ hk, if_neg (Nat.lt_irrefl _)]
theorem midT_succ (zs st : List Int) {rs : List Ring} {k : Nat} (hk : k < rs.length) : midT zs st rs (k + 1) = (midT zs st rs k).set k (turnR st (zoneOf zs k) rs[k]) := by
  refine List.ext_getElem (by rw [List.length_set, midT_len, midT_len]) fun i h1 h2 => ?_
  rw [List.getElem_set]
  have hi : i < rs.length := by rw [midT_len] at h1; exact h1
  by_cases q : k = i
  · subst q
    rw [if_pos rfl, midT_get zs st rs _ _ h1 hi, if_pos (Nat.lt_succ_self _)]
  · rw [if_neg q, midT_get zs st rs _ _ h1 hi, midT_get zs st rs k i (by rw [midT_len]; exact hi) hi]
    by_cases q2 : i < k
    · rw [if_pos (by omega), if_pos q2]
    · rw [if_neg (by omega), if_neg q2]
theorem set_ring1 (xs : List Ring) (n : Int) : ∀ k (h : k < xs.length), (xs.flatMap Ring.put).set (k * 3 + 1) (.int .i64 n) = (xs.set k ⟨xs[k].outer, n, xs[k].height⟩).flatMap Ring.put := by
  induction xs with
  | nil => intro k h; simp at h
  | cons x xs ih =>
    intro k h
    cases k with
    | zero => rfl
    | succ k =>
      rw [show (k + 1) * 3 + 1 = k * 3 + 1 + 3 from by omega]
      show ((.int .i64 x.outer) :: (.int .i64 x.inner) :: (.int .i64 x.height) :: (xs.flatMap Ring.put).set (k * 3 + 1) (.int .i64 n)) = _
      rw [ih k (by simpa using h)]
      rfl
def zEnd (zs : List Int) (n z : Nat) : Int := if z + 1 < zs.length then zs.getD (z + 1) 0 else n
set_option maxHeartbeats 1000000 in
theorem spec_l09Zone (w : World) (B : Nat) (v : Value) (zs : List Int) (r : Int) (h : Rd B w v 1 zs.length (zs.flatMap putI)) (hn : zs.length ≤ 1048576) :
    Calls Tryz.prog 103 #[v, .int .i64 r] w fun e w' => e = .returned (.int .i64 (zoneOf zs r)) ∧ w = w' := by
  obtain ⟨hL, ao, cap, rfl, hcap, hmax, hnil, hsome⟩ := h
  go_enter Tryz.func103, Tryz.ntmps103
  go_wp2
  go_loop [5, 6] (fun z i => ∃ (k : Nat), k ≤ zs.length ∧ i = .int .i64 k ∧ z = .int .i64 (zoneK zs r k)) (fun _ i => zs.length - (intOf i).toNat)
  case atStart => exact ⟨0, Nat.zero_le _, rfl, rfl⟩
  case round =>
    obtain ⟨k, hk, rfl, rfl⟩ := hrel
    by_cases hlt : k < zs.length
    · obtain ⟨b, off, rfl, hbB, hc⟩ := hsome (by omega)
      have c0 : w.cell? ⟨b, off + k, none⟩ = some (.int .i64 zs[k]) := by rw [hc k (by omega), putI_get zs k hlt]
      have E := Lib.hid (zoneK_succ (r := r) hlt)
      clear hc hsome hnil
      generalize zoneK zs r k = Z at *
      by_cases hx : zs[k] ≤ r
      · have t1 : decide (zs[k] ≤ r) = true := decide_eq_true hx
        have E2 : Hid (zoneK zs r (k + 1) = k) := Lib.hid (by rw [E.out, if_pos hx])
        clear hx E
        generalize zs[k] = x at *
        go_wp2_with fail
        go_round
        case rel => exact ⟨k + 1, by omega, by go_num, by rw [E2.out]⟩
        case measure => simp [intOf]; omega
      · have t1 : decide (zs[k] ≤ r) = false := decide_eq_false hx
        have E2 : Hid (zoneK zs r (k + 1) = Z) := Lib.hid (by rw [E.out, if_neg hx])
        clear hx E
        generalize zs[k] = x at *
        go_wp2_with fail
        go_round
        case rel => exact ⟨k + 1, by omega, by go_num, by rw [E2.out]⟩
        case measure => simp [intOf]; omega
    · obtain rfl : k = zs.length := by omega
      clear hsome hnil
      go_wp2_with fail
      go_ret
      exact ⟨rfl, rfl⟩
/-- what a store into a ring needs -/
theorem turn_set {w : World} {g c n k : Nat} {zs st : List Int} {rs : List Ring} {base : Nat} (hn : rs.length = n) (hk : k < rs.length) (h : w.ownsRow base 123 3 (.slice (some ⟨g, 0, none⟩) n c) n ((midT zs st rs k).flatMap Ring.put)) :
    (w.setCell ⟨g, k * 3 + 1, none⟩ (.int .i64 (rs[k].inner + 10 * st.getD (zoneOf zs k) 0))).ownsRow base 123 3 (.slice (some ⟨g, 0, none⟩) n c) n ((midT zs st rs (k + 1)).flatMap Ring.put) := by
  have := own_setZ h (k * 3 + 1) (by omega) (.int .i64 (rs[k].inner + 10 * st.getD (zoneOf zs k) 0))
  rw [set_ring1 _ _ k (by rw [midT_len]; exact hk), midT_at zs st hk] at this
  rw [midT_succ zs st hk]
  exact this
theorem turn_cell {w : World} {g c n k : Nat} {zs st : List Int} {rs : List Ring} {base : Nat} (hn : rs.length = n) (hk : k < rs.length) (h : w.ownsRow base 123 3 (.slice (some ⟨g, 0, none⟩) n c) n ((midT zs st rs k).flatMap Ring.put)) :
    w.cell? ⟨g, k * 3 + 1, none⟩ = some (.int .i64 rs[k].inner) ∧ w.frozen? ⟨g, k * 3 + 1, none⟩ = false ∧ g < w.heap.size ∧ base ≤ g := by
  obtain ⟨c0, f0, hg, hb⟩ := own_cellZ h (k * 3 + 1) (by omega)
  refine ⟨?_, f0, hg, hb⟩
  rw [c0, Ring_get1 _ k (by rw [midT_len]; exact hk), midT_at zs st hk]
set_option maxHeartbeats 4000000 in
theorem spec_l09Turned (w : World) (p : Nat) (x : Profile) (lo : Option Addr) (lc : Nat) (zo so : Option Addr) (zc sc : Nat) (zs st : List Int) (hp : ProfAt w p x lo lc) (hR : RdR w lo lc x.rings) (hv : ∀ r ∈ x.rings, ringB r = true) (h1 : 1 ≤ x.rings.length) (h32 : x.rings.length ≤ 32)
    (hz : Rd w.heap.size w (.slice zo zs.length zc) 1 zs.length (zs.flatMap putI)) (hz1 : 1 ≤ zs.length) (hz8 : zs.length ≤ 8) (hs : Rd w.heap.size w (.slice so st.length sc) 1 st.length (st.flatMap putI)) (hsl : zs.length ≤ st.length) (hst : st.length ≤ 1048576) (hsb : ∀ n ∈ st, 0 ≤ n ∧ n ≤ 1280) :
    Calls Tryz.prog 61 #[.pointer (some ⟨p, 0, none⟩), .slice zo zs.length zc, .slice so st.length sc] w fun e w' => ∃ g c, e = .returned (.agg #[.string x.name, .slice (some ⟨g, 0, none⟩) x.rings.length c]) ∧ w'.ownsRow w.heap.size 123 3 (.slice (some ⟨g, 0, none⟩) x.rings.length c) x.rings.length ((turnedS zs st x.rings).flatMap Ring.put) ∧ Below w.heap.size w w' := by
  obtain ⟨W1, hW1⟩ : ∃ W1, w.alloc (.cells #[.string ⟨#[]⟩, .slice none 0 0] 43) = W1 := ⟨_, rfl⟩
  have b1 : Below w.heap.size w W1 := hW1 ▸ (Below.refl _ _).alloc (Nat.le_refl _) _
  have R1 := Lib.hid (show Own W1 w.heap.size 43 [.string ⟨#[]⟩, .slice none 0 0] from hW1 ▸ Own.new w _ _)
  have HO := Lib.hid (spec_l05Own W1 p x lo lc (hp.below b1 hp.2.2) (hR.up b1) (by omega) h1)
  have B1 := Lib.hid b1
  have HZ := Lib.hid hz
  have HS := Lib.hid hs
  have HV := Lib.hid hv
  have HSB := Lib.hid hsb
  obtain ⟨n, hn⟩ : ∃ n, x.rings.length = n := ⟨_, rfl⟩
  have HN := Lib.hid hn
  have hn1 : 1 ≤ n := by omega
  have hn32 : n ≤ 32 := by omega
  rw [hn] at HO ⊢
  generalize x.rings = rs at *
  clear hp hR hz hs hv hsb b1 hn h1 h32
  go_enter Tryz.func61, Tryz.ntmps61
  go_wp2_with fail
  refine HO.out.mono ?_; rintro e w2 ⟨g, c, rfl, o2, b2⟩
  have e1 : Hid (W1.heap.size = w.heap.size + 1) := Lib.hid (by rw [← hW1]; simp)
  have z12 : w.heap.size < W1.heap.size := by rw [e1.out]; exact Nat.lt_succ_self _
  have z2 : W1.heap.size ≤ w2.heap.size := b2.size
  have R2 := Lib.hid (R1.out.below b2 R1.out.lt)
  have O2 := Lib.hid o2
  have B2 := Lib.hid (bnext B1.out b2)
  have hgw : g < w2.heap.size ∧ W1.heap.size ≤ g := by have := o2.lt g rfl; exact ⟨this.2, this.1⟩
  have O3 : Hid ((w2.alloc (.cells #[.string x.name, .slice (some ⟨g, 0, none⟩) n c] 43)).ownsRow W1.heap.size 123 3 (.slice (some ⟨g, 0, none⟩) n c) n (rs.flatMap Ring.put)) := Lib.hid (o2.alloc _)
  have R3 : Hid (Own (w2.alloc (.cells #[.string x.name, .slice (some ⟨g, 0, none⟩) n c] 43)) w.heap.size 43 [.string ⟨#[]⟩, .slice none 0 0]) := Lib.hid (R2.out.alloc _)
  have P3 : Hid (Own (w2.alloc (.cells #[.string x.name, .slice (some ⟨g, 0, none⟩) n c] 43)) w2.heap.size 43 [.string x.name, .slice (some ⟨g, 0, none⟩) n c]) := Lib.hid (Own.new w2 _ _)
  have B3 : Hid (Below w.heap.size w (w2.alloc (.cells #[.string x.name, .slice (some ⟨g, 0, none⟩) n c] 43))) := Lib.hid (B2.out.alloc B2.out.size _)
  clear o2 b2 R2 O2 B2 R1 B1 HO hW1 e1
  go_wp2_with fail
  obtain ⟨hgw1, hgw2⟩ := hgw
  generalize hq2 : w2.heap.size = q2 at *
  clear hq2
  go_loopw [8] (fun i wr => ∃ (k : Nat), k ≤ n ∧ i = .int .i64 k ∧ wr.ownsRow W1.heap.size 123 3 (.slice (some ⟨g, 0, none⟩) n c) n ((midT zs st rs k).flatMap Ring.put) ∧ Own wr w.heap.size 43 [.string ⟨#[]⟩, .slice none 0 0] ∧ Own wr q2 43 [.string x.name, .slice (some ⟨g, 0, none⟩) n c] ∧ Below w.heap.size w wr) (fun i _ => n - (intOf i).toNat)
  case atStart => exact ⟨0, Nat.zero_le _, rfl, by rw [midT_zero]; exact O3.out, R3.out, P3.out, B3.out⟩
  case round =>
    clear O3 R3 P3 B3
    obtain ⟨k, hk, rfl, ho, hr, hp, hb⟩ := hrel
    have OR := Lib.hid ho
    have RR := Lib.hid hr
    have PR := Lib.hid hp
    have BR := Lib.hid hb
    have p1 : wr.cell? ⟨q2, 1, none⟩ = some (.slice (some ⟨g, 0, none⟩) n c) := hp.cell 1
    have pl := hp.lt
    by_cases hlt : k < n
    · have hkr : k < rs.length := by rw [HN.out]; exact hlt
      obtain ⟨c0, f0, hg, hgb⟩ := turn_cell HN.out hkr ho
      have hrb := ringB_nums (HV.out rs[k] (List.getElem_mem hkr))
      have hzk := zoneOf_lt (zs := zs) (k : Int) hz1
      have hzs : zoneOf zs k < st.length := by omega
      have HSr := HS.out.up hb
      obtain ⟨sb, soff, rfl, hsbl, s0⟩ := Rd.at HSr (zoneOf zs k) hzs
      have hsn := HSB.out (st[zoneOf zs k]'hzs) (List.getElem_mem hzs)
      have hgd : st.getD (zoneOf zs k) 0 = st[zoneOf zs k]'hzs := by rw [List.getD_eq_getElem?_getD, List.getElem?_eq_getElem hzs]; rfl
      have HSET := Lib.hid (turn_set HN.out hkr ho)
      rw [hgd] at HSET
      have HB5 := Lib.hid ((Below.setCell hb (show w.heap.size ≤ g by omega) (.int .i64 (rs[k].inner + 10 * st[zoneOf zs k]'hzs)) : Below w.heap.size w (wr.setCell ⟨g, k * 3 + 1, none⟩ _)).drew)
      have HR5 := Lib.hid (Own.drew1 (hr.other (a := ⟨g, k * 3 + 1, none⟩) (by show g ≠ w.heap.size; omega) (.int .i64 (rs[k].inner + 10 * st[zoneOf zs k]'hzs))))
      have HP5 := Lib.hid (Own.drew1 (hp.other (a := ⟨g, k * 3 + 1, none⟩) (by show g ≠ q2; omega) (.int .i64 (rs[k].inner + 10 * st[zoneOf zs k]'hzs))))
      have HZr := Lib.hid (HZ.out.up hb)
      have hz1048 : zs.length ≤ 1048576 := by omega
      have HZC := Lib.hid (fun (m : Nat) => spec_l09Zone (wr.drewN m) wr.heap.size _ zs (k : Int) HZr.out hz1048)
      generalize hsv : st[zoneOf zs k]'hzs = sv at *
      generalize zoneOf zs k = Z at *
      obtain ⟨inn, hinn⟩ : ∃ i, rs[k].inner = i := ⟨_, rfl⟩
      rw [hinn] at c0 HSET HB5 HR5 HP5 hrb
      have hrb2 : 0 ≤ inn ∧ inn ≤ 150000 := by omega
      have hZI : (Z : Int) < (st.length : Int) := by omega
      have hZ0 : (0 : Int) ≤ (Z : Int) := by omega
      have hkI : (k : Int) < (n : Int) := by omega
      have hk0 : (0 : Int) ≤ (k : Int) := by omega
      have hw1 : IntKind.i64.wrap (10 * sv) = 10 * sv := by rw [IntKind.wrap_i64]; omega
      have hw2 : IntKind.i64.wrap (inn + 10 * sv) = inn + 10 * sv := by rw [IntKind.wrap_i64]; omega
      clear ho hr hp hb hsv hgd hsn hinn hrb HSr
      go_wp2_with fail
      go_region_with ((go_at_call 103; refine (HZC.out _).mono ?_; rintro e w' ⟨rfl, rfl⟩))
      all_goals have J1 : Hid (World.ownsRow ((wr.drewN 1).setCell ⟨g, k * 3 + 1, none⟩ (.int .i64 (inn + 10 * sv))) W1.heap.size 123 3 (.slice (some ⟨g, 0, none⟩) n c) n ((midT zs st rs (k + 1)).flatMap Ring.put)) := Lib.hid HSET.out
      all_goals have J2 : Hid (Own ((wr.drewN 1).setCell ⟨g, k * 3 + 1, none⟩ (.int .i64 (inn + 10 * sv))) w.heap.size 43 [.string ⟨#[]⟩, .slice none 0 0]) := Lib.hid HR5.out
      all_goals have J3 : Hid (Own ((wr.drewN 1).setCell ⟨g, k * 3 + 1, none⟩ (.int .i64 (inn + 10 * sv))) q2 43 [.string x.name, .slice (some ⟨g, 0, none⟩) n c]) := Lib.hid HP5.out
      all_goals have J4 : Hid (Below w.heap.size w ((wr.drewN 1).setCell ⟨g, k * 3 + 1, none⟩ (.int .i64 (inn + 10 * sv)))) := Lib.hid HB5.out
      all_goals clear HSET HB5 HR5 HP5 HZC c0 f0 s0 p1 OR RR PR BR HZr
      all_goals
        generalize ((wr.drewN 1).setCell ⟨g, k * 3 + 1, none⟩ (.int .i64 (inn + 10 * sv))) = w5 at *
        go_wp2_with fail
        go_roundw
      all_goals first
        | exact ⟨k + 1, by omega, by go_num, J1.out, J2.out, J3.out, J4.out⟩
        | (simp [intOf]; omega)
    · obtain rfl : k = n := by omega
      have hme : Hid (midT zs st rs k = turnedS zs st rs) := Lib.hid (by unfold turnedS; rw [HN.out])
      rw [hme.out] at OR
      have p0 : wr.cell? ⟨q2, 0, none⟩ = some (.string x.name) := hp.cell 0
      have r0 := hr.cell 0
      have r1 := hr.cell 1
      have f0 := hr.free 0
      have f1 := hr.free 1
      have rl := hr.lt
      have hne : ¬ w.heap.size = q2 := by omega
      have hne2 : ¬ q2 = w.heap.size := by omega
      have hax : ∀ g', (Value.slice (some ⟨g, 0, none⟩) k c).ownBlock = some g' → g' ≠ w.heap.size := fun g' hg' => (by
        have h3 := (OR.out.lt g' hg').1
        omega)
      clear ho hr hp hb
      go_wp2_with fail
      refine bodyPost_ret (v := .agg #[.string x.name, .slice (some ⟨g, 0, none⟩) k c]) (by simp [results, Tryz.results61, go_sem, p0, p1, pl, r0, r1, rl, hne, hne2]) rfl ?_
      refine ⟨g, c, rfl, own_baseZ (own_farZ (own_farZ OR.out hax 0 _) hax 1 _) (by omega), ?_⟩
      exact Below.setCell (Below.setCell BR.out (Nat.le_refl _) _) (Nat.le_refl _) _
end Go.Proofs.YtcjekailcljaaaaGreat
