/- Contracts and plain facts, joined: GrdN. -/
import Derived.Test.YtcjekailcljaaaaGreatRows
import Derived.Test.YtcjekailcljaaaaGreatZFnExactGreedyPlanX
import Derived.Test.YtcjekailcljaaaaGreatZFnExactGreedyPlanZB
import Derived.Test.YtcjekailcljaaaaGreatZFnExactGreedyPlanZH
namespace Go.Proofs.YtcjekailcljaaaaGreat
open Go.ChangeShapes Go.WideShapes Go.ChangeAt Go.RowKit Go.Deep Go.Joins
set_option linter.unusedVariables false
set_option maxRecDepth 100000
set_option linter.unusedSimpArgs false
def mostL (x : Profile) (zs : List Int) : List Int := (List.range zs.length).map fun z => (mostZ x zs z : Int)
def roomL (g : GoalX) (m : Mdl) (x : Profile) : List Int := (List.range m.zones.length).map (roomZ g m x)
theorem roomL_len (g : GoalX) (m : Mdl) (x : Profile) : (roomL g m x).length = m.zones.length := by simp [roomL]
theorem roomL_at {g : GoalX} {m : Mdl} {x : Profile} {z : Nat} (h : z < (roomL g m x).length) : (roomL g m x)[z] = roomZ g m x z := by simp only [roomL, List.getElem_map, List.getElem_range]
theorem range_take {n k : Nat} (f : Nat → Int) (h : k < n) : (((List.range n).map f).take (k + 1)).flatMap putI = (((List.range n).map f).take k).flatMap putI ++ [.int .i64 (f k)] := by
  have hl : k < ((List.range n).map f).length := by simpa using h
  rw [List.take_succ_eq_append_getElem hl, List.flatMap_append, List.getElem_map, List.getElem_range]
  rfl
/-- the first k are of f, the others of h -/
def midL (f h : Nat → Int) (n k : Nat) : List Int := (List.range n).map fun z => if z < k then f z else h z
theorem midL_len (f h : Nat → Int) (n k : Nat) : (midL f h n k).length = n := by simp [midL]
theorem midL_at {f h : Nat → Int} {n k : Nat} (hk : k < n) : (midL f h n k)[k]'(by rw [midL_len]; exact hk) = h k := by simp only [midL, List.getElem_map, List.getElem_range, Nat.lt_irrefl, if_false]
theorem midL_set {f h : Nat → Int} {n k : Nat} (hk : k < n) : (midL f h n k).set k (f k) = midL f h n (k + 1) := by
  refine List.ext_getElem (by rw [List.length_set, midL_len, midL_len]) fun i h1 h2 => ?_
  simp only [List.getElem_set, midL, List.getElem_map, List.getElem_range]
  by_cases e : k = i
  · subst e; rw [if_pos rfl, if_pos (Nat.lt_succ_self _)]
  · rw [if_neg e]
    by_cases q : i < k
    · rw [if_pos q, if_pos (by omega)]
    · rw [if_neg q, if_neg (by omega)]
theorem midL_zero (f h : Nat → Int) (n : Nat) : midL f h n 0 = (List.range n).map h := by simp [midL]
theorem midL_full (f h : Nat → Int) (n : Nat) : midL f h n n = (List.range n).map f := by
  unfold midL
  refine List.map_congr_left fun z hz => ?_
  rw [if_pos (List.mem_range.1 hz)]
set_option maxHeartbeats 2000000 in
theorem impl_roomOf (w : World) (x : Profile) (lo : Option Addr) (lc : Nat) (zo : Option Addr) (zc : Nat) (zs : List Int) (hs : x.name.size ≤ maxLen) (hR : RdR w lo lc x.rings) (hx : profB x = true) (hz : Rd w.heap.size w (.slice zo zs.length zc) 1 zs.length (zs.flatMap putI)) (hzb : zonesB x.rings.length zs = true) :
    Calls Tryz.prog 117 #[.agg #[.string x.name, .slice lo x.rings.length lc], .slice zo zs.length zc] w fun e w' => (∃ r, e = .returned r ∧ w'.ownsRow w.heap.size 2 1 r zs.length ((mostL x zs).flatMap putI)) ∧ Below w.heap.size w w' := by
  have hz18 := (zonesB_parts hzb).1
  obtain ⟨i0, hi, hz0, hz1, hz2⟩ := info_parts info_i64
  obtain ⟨W1, hW1⟩ : ∃ W1, w.alloc (.cells #[.string x.name, .slice lo x.rings.length lc] 43) = W1 := ⟨_, rfl⟩
  have b1 : Below w.heap.size w W1 := hW1 ▸ (Below.refl _ _).alloc (Nat.le_refl _) _
  have P1 : Own W1 w.heap.size 43 [.string x.name, .slice lo x.rings.length lc] := hW1 ▸ Own.new w _ _
  have HP1 := Lib.hid P1
  have HB1 := Lib.hid b1
  have hzw := b1.size
  have HM := Lib.hid (fun (w' : World) (hb : Below W1.heap.size W1 w') (z : Nat) (hz' : z < zs.length) => impl_mostSteps w' x lo lc zo zc zs z hz' hs ((hR.up b1).up hb) hx ((hz.up b1).up hb) hzb)
  have HSN : Hid (∀ k, k < zs.length → (((mostL x zs).take (k + 1)).flatMap putI = ((mostL x zs).take k).flatMap putI ++ [.int .i64 (mostZ x zs k)])) := Lib.hid (fun k hk => range_take (fun z => (mostZ x zs z : Int)) hk)
  have HF : Hid ((mostL x zs).take zs.length = mostL x zs) := Lib.hid (List.take_of_length_le (by simp [mostL]))
  generalize mostL x zs = M at *
  clear hs hR hx hz hzb b1 P1
  go_enter Tryz.func117, Tryz.ntmps117
  go_wp2_with fail
  go_loopw [5, 9] (fun r i wr => ∃ (k : Nat), k ≤ zs.length ∧ i = .int .i64 k ∧ wr.ownsRow W1.heap.size 2 1 r k ((M.take k).flatMap putI) ∧ Below W1.heap.size W1 wr) (fun _ i _ => zs.length - (intOf i).toNat)
  case atStart => exact ⟨0, Nat.zero_le _, rfl, own_nil _ _ _ _, Below.refl _ _⟩
  case round =>
    obtain ⟨k, hk, rfl, ho, hb⟩ := hrel
    have OR := Lib.hid ho
    have BR := Lib.hid hb
    obtain ⟨so, sc, er⟩ := (own_rd ho).form
    subst er
    by_cases hlt : k < zs.length
    · have PR := HP1.out.below hb HP1.out.lt
      have p0 : wr.cell? ⟨w.heap.size, 0, none⟩ = some (.string x.name) := PR.cell 0
      have p1 : wr.cell? ⟨w.heap.size, 1, none⟩ = some (.slice lo x.rings.length lc) := PR.cell 1
      have pl := PR.lt
      have HMK := Lib.hid (HM.out wr hb k hlt)
      have HSK := Lib.hid (HSN.out k hlt)
      obtain ⟨q, hq⟩ : ∃ q, mostZ x zs k = q := ⟨_, rfl⟩
      rw [hq] at HMK HSK
      have hwz : W1.heap.size ≤ wr.heap.size := hb.size
      clear ho hb PR hq
      go_wp2_with fail
      refine HMK.out.mono ?_; rintro e1 w6 ⟨rfl, b6⟩
      have OR6 := Lib.hid (own_below OR.out b6 (Nat.le_refl _))
      have BR6 := Lib.hid (bnext BR.out b6)
      have hwz6 : W1.heap.size ≤ w6.heap.size := Nat.le_trans hwz b6.size
      clear b6 p0 p1 pl HMK OR
      go_wp2_with (at_builtin; refine app_el rfl _ _ 22 2 i0 (.int .i64 0) 1 8 Tryz.underlying22 hi hz0 hz1 hz2 (by rfl) (by decide) rfl w6 W1.heap.size _ k ((M.take k).flatMap putI) (by rfl) OR6.out [.int .i64 (q : Int)] rfl (int_one _) (by rfl) (by omega) (by decide) hwz6 ?_; intro g5 gc5 w7 hown5 hB5 hz5; have HB7 := Lib.hid (hB5 w6 (Below.refl _ _)); have HO5 := Lib.hid hown5; clear hown5 hB5)
      go_roundw
      case rel => exact ⟨k + 1, by omega, by go_num, by rw [HSK.out]; exact HO5.out, BR6.out.trans HB7.out⟩
      case measure => simp [intOf]; omega
    · obtain rfl : k = zs.length := by omega
      rw [HF.out] at OR
      clear ho hb
      go_wp2_with fail
      go_ret
      exact ⟨⟨_, rfl, own_baseZ OR.out hzw⟩, bnext HB1.out BR.out⟩
set_option maxHeartbeats 2000000 in
theorem impl_limits (w : World) (zo wo bo lo : Option Addr) (zc wc bc lc : Nat) (m : Mdl) (x : Profile) (g : GoalX) (hr : RdMdl w.heap.size w (.slice zo m.zones.length zc) (.slice wo m.rows.length wc) (.slice bo m.base.length bc) m) (hs : x.name.size ≤ maxLen) (hR : RdR w lo lc x.rings) (hx : profB x = true) (hzb : zonesB x.rings.length m.zones = true) :
    Calls Tryz.prog 94 #[.agg #[.slice zo m.zones.length zc, .slice wo m.rows.length wc, .slice bo m.base.length bc], .agg #[.string x.name, .slice lo x.rings.length lc], .agg #[.int .i64 g.a, .int .i64 g.b, .int .i64 g.c, .int .i64 g.d, .int .i64 g.e, .int .i64 g.tol, .int .i64 g.most]] w fun e w' => (∃ r, e = .returned r ∧ w'.ownsRow w.heap.size 2 1 r m.zones.length ((roomL g m x).flatMap putI)) ∧ Below w.heap.size w w' := by
  have hz18 := (zonesB_parts hzb).1
  obtain ⟨n, hn⟩ : ∃ n, m.zones.length = n := ⟨_, rfl⟩
  obtain ⟨W1, hW1⟩ : ∃ W1, w.alloc (.cells #[.slice zo n zc, .slice wo m.rows.length wc, .slice bo m.base.length bc] 39) = W1 := ⟨_, rfl⟩
  obtain ⟨W2, hW2⟩ : ∃ W2, W1.alloc (.cells #[.string x.name, .slice lo x.rings.length lc] 43) = W2 := ⟨_, rfl⟩
  obtain ⟨W3, hW3⟩ : ∃ W3, W2.alloc (.cells #[.int .i64 g.a, .int .i64 g.b, .int .i64 g.c, .int .i64 g.d, .int .i64 g.e, .int .i64 g.tol, .int .i64 g.most] 47) = W3 := ⟨_, rfl⟩
  have b1 : Below w.heap.size w W1 := hW1 ▸ (Below.refl _ _).alloc (Nat.le_refl _) _
  have b2 : Below W1.heap.size W1 W2 := hW2 ▸ (Below.refl _ _).alloc (Nat.le_refl _) _
  have b3 : Below W2.heap.size W2 W3 := hW3 ▸ (Below.refl _ _).alloc (Nat.le_refl _) _
  have M1 : Own W1 w.heap.size 39 [.slice zo n zc, .slice wo m.rows.length wc, .slice bo m.base.length bc] := hW1 ▸ Own.new w _ _
  have M3 := (M1.below b2 M1.lt).below b3 (M1.below b2 M1.lt).lt
  have P2 : Own W2 W1.heap.size 43 [.string x.name, .slice lo x.rings.length lc] := hW2 ▸ Own.new W1 _ _
  have P3 := P2.below b3 P2.lt
  have G3 : Own W3 W2.heap.size 47 g.put := hW3 ▸ Own.new W2 _ _
  have BB3 := bnext (bnext b1 b2) b3
  have HG3 := Lib.hid G3
  have B3 := Lib.hid BB3
  have m0 : W3.cell? ⟨w.heap.size, 0, none⟩ = some (.slice zo n zc) := M3.cell 0
  have ml := M3.lt
  have p0 : W3.cell? ⟨W1.heap.size, 0, none⟩ = some (.string x.name) := P3.cell 0
  have p1 : W3.cell? ⟨W1.heap.size, 1, none⟩ = some (.slice lo x.rings.length lc) := P3.cell 1
  have pl := P3.lt
  have HRO := Lib.hid (impl_roomOf W3 x lo lc zo zc m.zones hs (hR.up BB3) hx (hr.up BB3).1 hzb)
  have hzw := BB3.size
  have HMI : Hid (mostL x m.zones = midL (roomZ g m x) (fun z => (mostZ x m.zones z : Int)) n 0) := Lib.hid (by rw [midL_zero, ← hn]; rfl)
  have HFU : Hid (midL (roomZ g m x) (fun z => (mostZ x m.zones z : Int)) n n = roomL g m x) := Lib.hid (by rw [midL_full, ← hn]; rfl)
  have HRZ : Hid (∀ z, roomZ g m x z = min (mostZ x m.zones z : Int) g.most) := Lib.hid (fun z => rfl)
  have hn18 : 1 ≤ n ∧ n ≤ 8 := by omega
  rw [HMI.out] at HRO
  rw [hn] at HRO ⊢
  clear hr hs hR hx hzb b1 b2 b3 M1 M3 P2 P3 G3 BB3 hn hz18 HMI
  go_enter Tryz.func94, Tryz.ntmps94
  go_wp2_with fail
  refine HRO.out.mono ?_; rintro e1 w4 ⟨⟨r4, rfl, o4⟩, b4⟩
  obtain ⟨G, cap, rfl⟩ : ∃ G cap, r4 = .slice (some ⟨G, 0, none⟩) n cap := by
    rcases own_form o4 with ⟨_, e⟩ | ⟨G, cap, e⟩
    · omega
    · exact ⟨G, cap, e⟩
  have O4 := Lib.hid o4
  have HG4 := Lib.hid (HG3.out.below b4 HG3.out.lt)
  have B4 := Lib.hid (bnext B3.out b4)
  have z4 := b4.size
  have hGl := (own_cellZ o4 0 (by omega)).2.2
  have hgne : ¬ G = W2.heap.size := by have := HG3.out.lt; omega
  have hgne2 : ¬ W2.heap.size = G := fun q => hgne q.symm
  have hl3 : W2.heap.size < W3.heap.size := HG3.out.lt
  clear o4 b4 m0 ml p0 p1 pl HRO HG3 B3 hW1 hW2 hW3
  go_wp2_with fail
  go_loopw [15] (fun i wr => ∃ (k : Nat), k ≤ n ∧ i = .int .i64 k ∧ wr.ownsRow W3.heap.size 2 1 (.slice (some ⟨G, 0, none⟩) n cap) n ((midL (roomZ g m x) (fun z => (mostZ x m.zones z : Int)) n k).flatMap putI) ∧ Own wr W2.heap.size 47 g.put ∧ Below w.heap.size w wr) (fun i _ => n - (intOf i).toNat)
  case atStart => exact ⟨0, Nat.zero_le _, rfl, O4.out, HG4.out, B4.out⟩
  case round =>
    clear O4 HG4 B4
    obtain ⟨k, hk, rfl, ho, hg, hb⟩ := hrel
    have OR := Lib.hid ho
    have GR := Lib.hid hg
    have BR := Lib.hid hb
    by_cases hlt : k < n
    · obtain ⟨c0, f0, hG1, hG2⟩ := own_cellZ ho k (by omega)
      rw [putI_get _ k (by rw [midL_len]; exact hlt), midL_at hlt] at c0
      have g6 : wr.cell? ⟨W2.heap.size, 6, none⟩ = some (.int .i64 g.most) := hg.cell 6
      have gl := hg.lt
      have HST := Lib.hid (own_setZ ho k (by omega) (.int .i64 (roomZ g m x k)))
      rw [set_putI _ _ _ (by rw [midL_len]; exact hlt), midL_set hlt] at HST
      have HRK := HRZ.out k
      have HGS := Lib.hid (hg.other (a := ⟨G, k, none⟩) hgne (.int .i64 (roomZ g m x k)))
      have HBS := Lib.hid (Below.setCell hb (p := ⟨G, k, none⟩) (show w.heap.size ≤ G by omega) (.int .i64 (roomZ g m x k)))
      rw [HRK] at HST HGS HBS
      have hkI : (k : Int) < (n : Int) := by omega
      have hk0 : (0 : Int) ≤ (k : Int) := by omega
      obtain ⟨q, hq⟩ : ∃ q : Int, (mostZ x m.zones k : Int) = q := ⟨_, rfl⟩
      obtain ⟨mo, hmo⟩ : ∃ q : Int, g.most = q := ⟨_, rfl⟩
      rw [hq] at c0 HST HGS HBS
      rw [hmo] at g6 HST HGS HBS
      clear ho hg hb HRK hq hmo hG2
      go_wp2_with fail
      go_region
      go_wp2_with fail
      go_roundw
      case rel => exact ⟨k + 1, by omega, by go_num, HST.out, HGS.out, HBS.out.drew⟩
      case measure => simp [intOf]; omega
    · obtain rfl : k = n := by omega
      rw [HFU.out] at OR
      clear ho hg hb
      go_wp2_with fail
      go_ret
      exact ⟨⟨_, rfl, own_baseZ OR.out hzw⟩, BR.out⟩
end Go.Proofs.YtcjekailcljaaaaGreat
