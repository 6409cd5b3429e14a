/- Contracts and plain facts, joined: TurnI. -/
import Derived.Test.YtcjekailcljaaaaGreatRows
import Derived.Test.YtcjekailcljaaaaGreatZFnExactGreedyPlanW
namespace Go.Proofs.YtcjekailcljaaaaGreat
open Go.ChangeShapes Go.WideShapes Go.ChangeAt Go.RowKit Go.Deep Go.Joins
set_option linter.unusedVariables false
set_option maxRecDepth 100000
set_option linter.unusedSimpArgs false
theorem zEnd_next {zs : List Int} {n z : Nat} (h : z + 1 < zs.length) : zEnd zs n z = zs[z + 1] := by
  unfold zEnd; rw [if_pos h, List.getD_eq_getElem?_getD, List.getElem?_eq_getElem h]; rfl
theorem zEnd_last {zs : List Int} {n z : Nat} (h : ¬ z + 1 < zs.length) : zEnd zs n z = n := by
  unfold zEnd; rw [if_neg h]
theorem impl_zoneEnd (w : World) (name : ByteArray) (lo : Option Addr) (n lc : Nat) (zo : Option Addr) (zc : Nat) (zs : List Int) (z : Nat) (hz : z < zs.length) (h : Rd w.heap.size w (.slice zo zs.length zc) 1 zs.length (zs.flatMap putI)) (hn : n ≤ 1048576) (hl : zs.length ≤ 1048576) :
    Calls Tryz.prog 111 #[.agg #[.string name, .slice lo n lc], .slice zo zs.length zc, .int .i64 z] w fun e w' => e = .returned (.int .i64 (zEnd zs n z)) ∧ Below w.heap.size w w' := by
  obtain ⟨W1, hW1⟩ : ∃ W1, w.alloc (.cells #[.string name, .slice lo n lc] 43) = W1 := ⟨_, rfl⟩
  have b1 : Below w.heap.size w W1 := hW1 ▸ (Below.refl _ _).alloc (Nat.le_refl _) _
  have O1 : Own W1 w.heap.size 43 [.string name, .slice lo n lc] := hW1 ▸ Own.new w _ _
  have c1 : W1.cell? ⟨w.heap.size, 1, none⟩ = some (.slice lo n lc) := O1.cell 1
  have cl := O1.lt
  have B1 := Lib.hid b1
  have HS := Lib.hid (fun w' => impl_sizeR w' lo n lc hn)
  have H1 := h.up b1
  clear O1 b1 h
  by_cases hz1 : z + 1 < zs.length
  · have e := Lib.hid (zEnd_next (n := n) hz1)
    obtain ⟨b, off, rfl, hbl, c2⟩ := Rd.at H1 (z + 1) hz1
    have t1 : decide ((z : Int) + 1 < (zs.length : Int)) = true := decide_eq_true (by omega)
    have t2 : decide (z + 1 < zs.length) = true := decide_eq_true hz1
    have hz3 : (z : Int) + 1 < (zs.length : Int) := by omega
    generalize zs[z + 1] = v at *
    clear H1
    go_enter Tryz.func111, Tryz.ntmps111
    go_wp2_with fail
    go_ret
    exact ⟨by rw [e.out]; rfl, B1.out⟩
  · have e := Lib.hid (zEnd_last (n := n) hz1)
    have t1 : decide ((z : Int) + 1 < (zs.length : Int)) = false := decide_eq_false (by omega)
    have t2 : decide (z + 1 < zs.length) = false := decide_eq_false hz1
    clear H1 hz1
    go_enter Tryz.func111, Tryz.ntmps111
    go_wp2_with fail
    refine (HS.out _).mono ?_; rintro e1 w2 ⟨rfl, rfl⟩
    go_wp2_with fail
    go_ret
    exact ⟨by rw [e.out]; rfl, B1.out⟩
def bndZ (zs : List Int) (n z : Nat) : Nat := (zs.getD z n).toNat
theorem bndZ_at {zs : List Int} {n z : Nat} (h : z < zs.length) : bndZ zs n z = (zs[z]).toNat := by
  unfold bndZ; rw [List.getD_eq_getElem?_getD, List.getElem?_eq_getElem h]; rfl
theorem bndZ_end {zs : List Int} {n z : Nat} (h : ¬ z < zs.length) : bndZ zs n z = n := by
  unfold bndZ; rw [List.getD_eq_getElem?_getD, List.getElem?_eq_none (by omega)]; simp
theorem zone_facts {zs : List Int} {n z : Nat} (h : zonesB n zs = true) (hz : z < zs.length) : zs[z] = (bndZ zs n z : Int) ∧ bndZ zs n z < bndZ zs n (z + 1) ∧ bndZ zs n (z + 1) ≤ n ∧ zEnd zs n z = (bndZ zs n (z + 1) : Int) ∧ ∀ k : Nat, bndZ zs n z ≤ k → k < bndZ zs n (z + 1) → zoneOf zs k = z := by
  obtain ⟨_, h0, hr⟩ := zonesB_parts h
  have hb := riseG_at hr z hz
  have e0 := bndZ_at (n := n) hz
  by_cases hz1 : z + 1 < zs.length
  · have hb1 := riseG_at hr (z + 1) hz1
    have hl := riseG_lt hr (z + 1) hz1 (by omega)
    simp only [Nat.add_sub_cancel] at hl
    have e1 := bndZ_at (n := n) hz1
    refine ⟨by omega, by omega, by omega, by rw [zEnd_next hz1]; omega, fun k h1 h2 => zoneOf_at hr hz (by omega) (fun _ => by omega)⟩
  · have e1 := bndZ_end (n := n) hz1
    refine ⟨by omega, by omega, by omega, by rw [zEnd_last hz1, e1], fun k h1 h2 => zoneOf_at hr hz (by omega) (fun q => absurd q hz1)⟩
theorem bndZ_zero {zs : List Int} {n : Nat} (h : zonesB n zs = true) : bndZ zs n 0 = 0 := by
  obtain ⟨h1, h0, _⟩ := zonesB_parts h
  unfold bndZ; rw [List.getD_eq_getElem?_getD, h0]; rfl
set_option maxHeartbeats 8000000 in
theorem impl_turned (w : World) (x : Profile) (lo : Option Addr) (lc : Nat) (zo so : Option Addr) (zc sc : Nat) (zs st : List Int) (hR : RdR w lo lc x.rings) (hv : ∀ r ∈ x.rings, ringB r = true) (h1 : 1 ≤ x.rings.length) (h32 : x.rings.length ≤ 32)
    (hz : Rd w.heap.size w (.slice zo zs.length zc) 1 zs.length (zs.flatMap putI)) (hzb : zonesB x.rings.length zs = true) (hs : Rd w.heap.size w (.slice so st.length sc) 1 st.length (st.flatMap putI)) (hsl : zs.length ≤ st.length) (hst : st.length ≤ 1048576) (hsb : ∀ n ∈ st, 0 ≤ n ∧ n ≤ 1280) :
    Calls Tryz.prog 83 #[.agg #[.string x.name, .slice lo x.rings.length lc], .slice zo zs.length zc, .slice so st.length sc] w fun e w' => ∃ g c, e = .returned (.agg #[.string x.name, .slice (some ⟨g, 0, none⟩) x.rings.length c]) ∧ w'.ownsRow w.heap.size 123 3 (.slice (some ⟨g, 0, none⟩) x.rings.length c) x.rings.length ((turnedS zs st x.rings).flatMap Ring.put) ∧ Below w.heap.size w w' := by
  obtain ⟨W1, hW1⟩ : ∃ W1, w.alloc (.cells #[.string x.name, .slice lo x.rings.length lc] 43) = W1 := ⟨_, rfl⟩
  obtain ⟨W2, hW2⟩ : ∃ W2, W1.alloc (.cells #[.string ⟨#[]⟩, .slice none 0 0] 43) = W2 := ⟨_, rfl⟩
  have b1 : Below w.heap.size w W1 := hW1 ▸ (Below.refl _ _).alloc (Nat.le_refl _) _
  have b2 : Below W1.heap.size W1 W2 := hW2 ▸ (Below.refl _ _).alloc (Nat.le_refl _) _
  have X1 : Own W1 w.heap.size 43 [.string x.name, .slice lo x.rings.length lc] := hW1 ▸ Own.new w _ _
  have X2 := X1.below b2 X1.lt
  have R2 : Own W2 W1.heap.size 43 [.string ⟨#[]⟩, .slice none 0 0] := hW2 ▸ Own.new W1 _ _
  have zw1 : w.heap.size < W1.heap.size := X1.lt
  have zw2 : W1.heap.size < W2.heap.size := R2.lt
  have HO := Lib.hid (impl_copyProfile W2 x lo lc ((hR.up b1).up b2) (by omega))
  have B2 := Lib.hid (bnext b1 b2)
  have HX2 := Lib.hid X2
  have HR2 := Lib.hid R2
  have HZ := Lib.hid hz
  have HS := Lib.hid hs
  have HV := Lib.hid hv
  have HSB := Lib.hid hsb
  have HZB := Lib.hid hzb
  have hz8 := (zonesB_parts hzb).1
  have y0 := X2.cell 0
  have y1 := X2.cell 1
  have yl := X2.lt
  obtain ⟨n, hn⟩ : ∃ n, x.rings.length = n := ⟨_, rfl⟩
  have HN := Lib.hid hn
  have hn1 : 1 ≤ n := by omega
  have hn32 : n ≤ 32 := by omega
  rw [hn] at HO HX2 HZB y1 hW1 ⊢
  generalize x.rings = rs at *
  obtain ⟨g1, hg1⟩ : ∃ g1, W1.heap.size = g1 := ⟨_, rfl⟩
  clear hR hz hs hv hsb b1 b2 hn h1 h32 X1 X2 R2 hzb hg1
  go_enter Tryz.func83, Tryz.ntmps83
  go_wp2_with fail
  refine HO.out.mono ?_; rintro e w3 ⟨r3, rfl, o3, b3⟩
  obtain ⟨go, c, er⟩ := (own_rd o3).form
  subst er
  rcases own_form o3 with ⟨_, q⟩ | ⟨g, cap2, eq⟩
  · omega
  injection eq with q1 q2 q3
  subst q1 q3
  clear q2
  have z3 : W2.heap.size ≤ w3.heap.size := b3.size
  have hgw := o3.lt g rfl
  obtain ⟨hgw1, hgw2⟩ := hgw
  have X4 : Hid (Own (w3.alloc (.cells #[.string x.name, .slice (some ⟨g, 0, none⟩) n c] 43)) w.heap.size 43 [.string x.name, .slice lo n lc]) := Lib.hid ((HX2.out.below b3 HX2.out.lt).alloc _)
  have R4 : Hid (Own (w3.alloc (.cells #[.string x.name, .slice (some ⟨g, 0, none⟩) n c] 43)) W1.heap.size 43 [.string ⟨#[]⟩, .slice none 0 0]) := Lib.hid ((HR2.out.below b3 HR2.out.lt).alloc _)
  have P4 : Hid (Own (w3.alloc (.cells #[.string x.name, .slice (some ⟨g, 0, none⟩) n c] 43)) w3.heap.size 43 [.string x.name, .slice (some ⟨g, 0, none⟩) n c]) := Lib.hid (Own.new w3 _ _)
  have O4 : Hid ((w3.alloc (.cells #[.string x.name, .slice (some ⟨g, 0, none⟩) n c] 43)).ownsRow W2.heap.size 123 3 (.slice (some ⟨g, 0, none⟩) n c) n (rs.flatMap Ring.put)) := Lib.hid (o3.alloc _)
  have B4 : Hid (Below w.heap.size w (w3.alloc (.cells #[.string x.name, .slice (some ⟨g, 0, none⟩) n c] 43))) := Lib.hid ((bnext B2.out b3).alloc (by omega) _)
  clear o3 b3 HO B2 HX2 HR2 y0 y1 yl hW1 hW2
  go_wp2_with fail
  generalize hq3 : w3.heap.size = q3 at *
  generalize hv1 : W1.heap.size = v1 at *
  generalize hv2 : W2.heap.size = v2 at *
  clear hq3 hv1 hv2
  go_loopw [15] (fun i wr => ∃ (z : Nat), z ≤ zs.length ∧ i = .int .i64 z ∧ wr.ownsRow v2 123 3 (.slice (some ⟨g, 0, none⟩) n c) n ((midT zs st rs (bndZ zs n z)).flatMap Ring.put) ∧ Own wr w.heap.size 43 [.string x.name, .slice lo n lc] ∧ Own wr v1 43 [.string ⟨#[]⟩, .slice none 0 0] ∧ Own wr q3 43 [.string x.name, .slice (some ⟨g, 0, none⟩) n c] ∧ Below w.heap.size w wr) (fun i _ => zs.length - (intOf i).toNat)
  case atStart => exact ⟨0, Nat.zero_le _, rfl, by rw [bndZ_zero HZB.out, midT_zero]; exact O4.out, X4.out, R4.out, P4.out, B4.out⟩
  case round =>
    clear X4 R4 P4 O4 B4
    obtain ⟨z, hz, rfl, ho, hx, hr, hp, hb⟩ := hrel
    have OR := Lib.hid ho
    have XR := Lib.hid hx
    have RR := Lib.hid hr
    have PR := Lib.hid hp
    have BR := Lib.hid hb
    by_cases hlt : z < zs.length
    · obtain ⟨f1, f2, f3, f4, f5⟩ := zone_facts HZB.out hlt
      have HF5 := Lib.hid f5
      obtain ⟨zb, zoff, rfl, hzbl, cz⟩ := Rd.at (HZ.out.up hb) z hlt
      rw [f1] at cz
      obtain ⟨F, hF⟩ : ∃ F, bndZ zs n z = F := ⟨_, rfl⟩
      obtain ⟨E, hE⟩ : ∃ E, bndZ zs n (z + 1) = E := ⟨_, rfl⟩
      have HE := Lib.hid hE
      rw [hF] at f2 cz HF5 OR
      rw [hE] at f2 f3 f4 HF5
      have HF4 := Lib.hid f4
      obtain ⟨wq, rfl⟩ : ∃ wq : World, wq = wr := ⟨_, rfl⟩
      clear ho hx hr hp hb f1 f4 f5 hF hE
      go_wp2_with fail
      go_loopw [10] (fun i wr => ∃ (k : Nat), F ≤ k ∧ k ≤ E ∧ i = .int .i64 k ∧ wr.ownsRow v2 123 3 (.slice (some ⟨g, 0, none⟩) n c) n ((midT zs st rs k).flatMap Ring.put) ∧ Own wr w.heap.size 43 [.string x.name, .slice lo n lc] ∧ Own wr v1 43 [.string ⟨#[]⟩, .slice none 0 0] ∧ Own wr q3 43 [.string x.name, .slice (some ⟨g, 0, none⟩) n c] ∧ Below w.heap.size w wr) (fun i _ => E - (intOf i).toNat)
      case atStart => exact ⟨F, Nat.le_refl _, Nat.le_of_lt f2, rfl, OR.out, XR.out, RR.out, PR.out, BR.out⟩
      case round =>
        clear OR XR RR PR BR cz hzbl
        obtain ⟨k, hFk, hkE, rfl, ho, hx, hr, hp, hb⟩ := hrel
        have x0 := hx.cell 0
        have x1 := hx.cell 1
        have xl := hx.lt
        have HZE := Lib.hid (impl_zoneEnd wr x.name lo n lc _ zc zs z hlt (HZ.out.up hb) (by omega) (by omega))
        rw [HF4.out] at HZE
        have O5 := Lib.hid ho
        have X5 := Lib.hid hx
        have R5 := Lib.hid hr
        have P5 := Lib.hid hp
        have B5 := Lib.hid hb
        clear ho hx hr hp hb
        go_wp2_with fail
        refine HZE.out.mono ?_; rintro e w5 ⟨rfl, b5⟩
        have ho := own_below O5.out b5 (Nat.le_refl _)
        have hx := X5.out.below b5 X5.out.lt
        have hr := R5.out.below b5 R5.out.lt
        have hp := P5.out.below b5 P5.out.lt
        have hb := B5.out.trans (b5.mono B5.out.size)
        clear b5 HZE x0 x1 xl O5 X5 R5 P5 B5
        by_cases hke : k < E
        · have tk : decide (k < E) = true := decide_eq_true hke
          have hkn : k < n := by omega
          have hke1 : k + 1 ≤ E := hke
          have hkr : k < rs.length := by rw [HN.out]; exact hkn
          have hzo := HF5.out k hFk hke
          obtain ⟨c0, f0, hg, hgb⟩ := turn_cell HN.out hkr ho
          have hrb := ringB_nums (HV.out rs[k] (List.getElem_mem hkr))
          have hzs : z < st.length := by omega
          obtain ⟨sb, soff, rfl, hsbl, s0⟩ := Rd.at (HS.out.up hb) z hzs
          have hsn := HSB.out (st[z]'hzs) (List.getElem_mem hzs)
          have hgd : st.getD (zoneOf zs k) 0 = st[z]'hzs := by rw [hzo, List.getD_eq_getElem?_getD, List.getElem?_eq_getElem hzs]; rfl
          have HSET := Lib.hid (turn_set HN.out hkr ho)
          rw [hgd] at HSET
          obtain ⟨sv, hsv⟩ : ∃ sv, st[z]'hzs = sv := ⟨_, rfl⟩
          rw [hsv] at HSET s0 hsn
          obtain ⟨inn, hinn⟩ : ∃ i, rs[k].inner = i := ⟨_, rfl⟩
          rw [hinn] at c0 HSET hrb
          have J1 : Hid (World.ownsRow (w5.setCell ⟨g, k * 3 + 1, none⟩ (.int .i64 (inn + 10 * sv))).drew v2 123 3 (.slice (some ⟨g, 0, none⟩) n c) n ((midT zs st rs (k + 1)).flatMap Ring.put)) := Lib.hid HSET.out
          have J2 : Hid (Own (w5.setCell ⟨g, k * 3 + 1, none⟩ (.int .i64 (inn + 10 * sv))).drew w.heap.size 43 [.string x.name, .slice lo n lc]) := Lib.hid (Own.drew1 (hx.other (a := ⟨g, k * 3 + 1, none⟩) (by show g ≠ w.heap.size; omega) (.int .i64 (inn + 10 * sv))))
          have J3 : Hid (Own (w5.setCell ⟨g, k * 3 + 1, none⟩ (.int .i64 (inn + 10 * sv))).drew v1 43 [.string ⟨#[]⟩, .slice none 0 0]) := Lib.hid (Own.drew1 (hr.other (a := ⟨g, k * 3 + 1, none⟩) (by show g ≠ v1; omega) (.int .i64 (inn + 10 * sv))))
          have J4 : Hid (Own (w5.setCell ⟨g, k * 3 + 1, none⟩ (.int .i64 (inn + 10 * sv))).drew q3 43 [.string x.name, .slice (some ⟨g, 0, none⟩) n c]) := Lib.hid (Own.drew1 (hp.other (a := ⟨g, k * 3 + 1, none⟩) (by show g ≠ q3; omega) (.int .i64 (inn + 10 * sv))))
          have J5 : Hid (Below w.heap.size w (w5.setCell ⟨g, k * 3 + 1, none⟩ (.int .i64 (inn + 10 * sv))).drew) := Lib.hid ((Below.setCell hb (show w.heap.size ≤ g by omega) (.int .i64 (inn + 10 * sv)) : Below w.heap.size w (w5.setCell ⟨g, k * 3 + 1, none⟩ _)).drew)
          have p1 : w5.cell? ⟨q3, 1, none⟩ = some (.slice (some ⟨g, 0, none⟩) n c) := hp.cell 1
          have pl := hp.lt
          have hrb2 : 0 ≤ inn ∧ inn ≤ 150000 := by omega
          have hZI : (z : Int) < (st.length : Int) := by omega
          have hkI : (k : Int) < (n : Int) := by omega
          have hk0 : (0 : Int) ≤ (k : Int) := by omega
          have hw1 : IntKind.i64.wrap (10 * sv) = 10 * sv := by rw [IntKind.wrap_i64]; omega
          have hw2 : IntKind.i64.wrap (inn + 10 * sv) = inn + 10 * sv := by rw [IntKind.wrap_i64]; omega
          clear ho hx hr hp hb HSET hgd hsv hinn hzo hrb hke
          go_wp2_with fail
          go_region
          go_wp2_with fail
          go_roundw
          case rel => exact ⟨k + 1, by omega, by omega, by go_num, J1.out, J2.out, J3.out, J4.out, J5.out⟩
          case measure => simp [intOf]; omega
        · obtain rfl : k = E := by omega
          have tk : decide (k < k) = false := decide_eq_false (by omega)
          have OO := Lib.hid ho
          have XX := Lib.hid hx
          have R9 := Lib.hid hr
          have PP := Lib.hid hp
          have BB := Lib.hid hb
          clear ho hx hr hp hb
          go_wp2_with fail
          go_roundw
          case rel => exact ⟨z + 1, by omega, by go_num, by rw [HE.out]; exact OO.out, XX.out, R9.out, PP.out, BB.out⟩
          case measure => simp [intOf]; omega
    · obtain rfl : z = zs.length := by omega
      have hme : Hid (midT zs st rs (bndZ zs n zs.length) = turnedS zs st rs) := Lib.hid (by unfold turnedS; rw [bndZ_end hlt, HN.out])
      rw [hme.out] at OR
      have p0 : wr.cell? ⟨q3, 0, none⟩ = some (.string x.name) := hp.cell 0
      have p1 : wr.cell? ⟨q3, 1, none⟩ = some (.slice (some ⟨g, 0, none⟩) n c) := hp.cell 1
      have pl := hp.lt
      have r0 := hr.cell 0
      have r1 := hr.cell 1
      have f0 := hr.free 0
      have f1 := hr.free 1
      have rl := hr.lt
      have hne : ¬ v1 = q3 := by omega
      have hne2 : ¬ q3 = v1 := by omega
      have hax : ∀ g', (Value.slice (some ⟨g, 0, none⟩) n c).ownBlock = some g' → g' ≠ v1 := fun g' hg' => (by
        have h3 := (OR.out.lt g' hg').1
        omega)
      clear ho hx hr hp hb
      go_wp2_with fail
      refine bodyPost_ret (v := .agg #[.string x.name, .slice (some ⟨g, 0, none⟩) n c]) (by simp [results, Tryz.results83, go_sem, p0, p1, pl, r0, r1, rl, hne, hne2]) rfl ?_
      refine ⟨g, c, rfl, own_baseZ (own_farZ (own_farZ OR.out hax 0 _) hax 1 _) (by omega), ?_⟩
      exact Below.setCell (Below.setCell BR.out (show w.heap.size ≤ v1 by omega) _) (show w.heap.size ≤ v1 by omega) _
end Go.Proofs.YtcjekailcljaaaaGreat
