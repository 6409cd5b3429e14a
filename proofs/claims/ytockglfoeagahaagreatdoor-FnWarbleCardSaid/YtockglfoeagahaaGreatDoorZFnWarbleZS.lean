/- Contracts and plain facts, joined: TurnP. -/
import Derived.Test.YtockglfoeagahaaGreatDoorRows
import Derived.Test.YtockglfoeagahaaGreatDoorZFnWarbleK
import Derived.Test.YtockglfoeagahaaGreatDoorZFnWarbleS
import Derived.Test.YtockglfoeagahaaGreatDoorZFnWarbleZR
import Derived.Deep.RegionHeld3
import Derived.Deep.RegionWith
namespace Go.Proofs.YtockglfoeagahaaGreatDoor
open Go.ChangeShapes Go.WideShapes Go.ChangeAt Go.RowKit Go.Deep Go.Joins
set_option linter.unusedVariables false
set_option maxRecDepth 100000
set_option linter.unusedSimpArgs false
theorem turn_bad {xs : List Spot} (d : Int) (h : validSpotS xs = false) : turnC xs = 1 ∧ turnS xs d = [] := by
  unfold turnC turnS
  rw [h]
  exact ⟨rfl, rfl⟩
theorem turn_good {xs : List Spot} (d : Int) (h : validSpotS xs = true) : turnC xs = 0 ∧ turnS xs d = turnF d xs xs.length := by
  unfold turnC turnS
  rw [h]
  exact ⟨rfl, rfl⟩
theorem turnF_len {d : Int} {xs : List Spot} (hv : validSpotS xs = true) {k : Nat} (hk : k ≤ xs.length) : (turnF d xs k).length = k := by
  rw [(turnF_is hv k hk).2.length_eq, List.length_map, List.length_take]; omega
theorem turnS_len (xs : List Spot) (d : Int) : (turnS xs d).length ≤ 16 := by
  cases h : validSpotS xs
  · rw [(turn_bad d h).2]; exact Nat.zero_le _
  · rw [(turn_good d h).2, turnF_len h (Nat.le_refl _)]; exact (validSpotS_true h).1
theorem turnF_weights {d : Int} {xs : List Spot} (hv : validSpotS xs = true) {k : Nat} (hk : k ≤ xs.length) : ∀ x ∈ turnF d xs k, -1000 ≤ x.weight ∧ x.weight ≤ 1000 := fun x hx => by
  obtain ⟨y, hy, rfl⟩ := List.mem_map.1 ((turnF_is hv k hk).2.mem_iff.1 hx)
  exact weights_of (validSpotS_true hv).2 y (List.mem_of_mem_take hy)
/-- the spots turned in place -/
theorem turned_is {xs : List Spot} {d : Int} (hv : validSpotS xs = true) {ys : List Spot} (hp : ys.Perm (xs.map (tA d))) (hs : ys.Pairwise fun a b => a.angle ≤ b.angle) : ys = turnF d xs xs.length := by
  obtain ⟨h1, h2⟩ := turnF_is (d := d) hv xs.length (Nat.le_refl _)
  rw [List.take_length] at h2
  have hnd : (turnF d xs xs.length).Pairwise fun a b => a.angle ≠ b.angle := (sorted_iff.1 h1).imp fun h => by omega
  have hnd2 : ys.Pairwise fun a b => a.angle ≠ b.angle := (hp.trans h2.symm).symm.pairwise hnd fun h q => h q.symm
  refine sorted_unique (sorted_iff.2 ?_) h1 (hp.trans h2.symm)
  have := List.pairwise_and_iff.2 ⟨hs, hnd2⟩
  exact this.imp fun ⟨a, b⟩ => by omega
theorem tA_angle (d : Int) (x : Spot) (h : 0 ≤ x.angle ∧ x.angle ≤ 359) : Int.tmod (x.angle + d % 360) 360 = (tA d x).angle ∧ 0 ≤ x.angle + d % 360 ∧ x.angle + d % 360 ≤ 718 := by
  have h1 : 0 ≤ d % 360 := Int.emod_nonneg _ (by decide)
  have h2 : d % 360 < 360 := Int.emod_lt_of_pos _ (by decide)
  exact ⟨by unfold tA; rw [Int.tmod_eq_emod_of_nonneg (by omega)], by omega, by omega⟩

/-- the first k spots turned -/
def zsT (d : Int) (xs : List Spot) (k : Nat) : List Spot := (xs.take k).map (tA d) ++ xs.drop k
theorem zsT_len (d : Int) (xs : List Spot) {k : Nat} (h : k ≤ xs.length) : (zsT d xs k).length = xs.length := by unfold zsT; simp; omega
theorem zsT_at (d : Int) (xs : List Spot) {k : Nat} (h : k < xs.length) (h2 : k < (zsT d xs k).length) : (zsT d xs k)[k] = xs[k] := by
  have e : (zsT d xs k)[k]? = xs[k]? := by
    unfold zsT
    rw [List.getElem?_append_right (by simp; omega), List.getElem?_drop]
    congr 1
    simp
    omega
  rw [List.getElem?_eq_getElem h, List.getElem?_eq_getElem h2] at e
  exact Option.some.inj e
theorem zsT_set (d : Int) (xs : List Spot) {k : Nat} (h : k < xs.length) : (zsT d xs k).set k (tA d xs[k]) = zsT d xs (k + 1) := by
  unfold zsT
  rw [List.set_append_right _ _ (by simp; omega), List.length_map, List.length_take, show k - min k xs.length = 0 from by omega, List.drop_eq_getElem_cons h, List.set_cons_zero, ← List.take_append_getElem h, List.map_append]
  simp
theorem zsT_all (d : Int) (xs : List Spot) : zsT d xs xs.length = xs.map (tA d) := by unfold zsT; simp

set_option maxHeartbeats 4000000 in
theorem impl_TurnSpots (w : World) (v : Value) (xs : List Spot) (d : Int) (h : Rd w.heap.size w v 2 xs.length (xs.flatMap Spot.put)) (hl : xs.length ≤ 1048576) (hok : ∀ x ∈ xs, x.ok) (hd : I64 d) :
    Calls Tryz.prog 8 #[v, .int .i64 d] w fun e w' => ∃ r : Value, e = .returned (.tuple #[r, .int .i64 (turnC xs)]) ∧ w'.ownsRow w.heap.size 38 2 r (turnS xs d).length ((turnS xs d).flatMap Spot.put) ∧ Below w.heap.size w w' := by
  have H := Lib.hid h
  have Hok := Lib.hid hok
  clear hok
  have Hd := Lib.hid hd; clear hd
  cases hV : validSpotS xs
  · obtain ⟨e1, e2⟩ := turn_bad d hV
    rw [e1, e2]
    have HW := Lib.hid hV; clear hV e1 e2 h
    go_enter Tryz.func8, Tryz.ntmps8
    go_wp2_with fail
    refine (impl_ValidSpots_is _ _ xs H.out hl Hok.out HW.out).mono ?_; rintro e w1 ⟨rfl, b1⟩
    go_wp2_with fail
    go_ret2
    exact ⟨_, rfl, own_nil _ _ _ _, b1⟩
  obtain ⟨e1, e2⟩ := turn_good d hV
  rw [e1, e2]
  have HV := Lib.hid hV
  obtain ⟨h16, hall⟩ := validSpotS_true hV
  have HA := Lib.hid hall
  clear hV e1 e2 hall h
  go_enter Tryz.func8, Tryz.ntmps8
  go_wp2_with fail
  refine (impl_ValidSpots_is _ _ xs H.out hl Hok.out HV.out).mono ?_; rintro e w1 ⟨rfl, b1⟩
  have HB1 := Lib.hid b1; clear b1
  go_wp2_with fail
  refine (clone_Spot _ _ xs.length _ (by exact H.out.up HB1.out) (Spot_one xs) (by omega)).mono ?_; rintro e w2 ⟨r, rfl, o2, b2⟩
  obtain ⟨ro, rc, rfl⟩ := (own_rd o2).form
  have HO1 := Lib.hid (own_base o2 HB1.out.size)
  have HB2 := Lib.hid (bnext HB1.out b2)
  clear o2 b2
  go_wp2_with fail
  go_loopw [7, 15] (fun _ i wr => ∃ (k : Nat), k ≤ xs.length ∧ i = .int .i64 k ∧ wr.ownsRow w.heap.size 38 2 (.slice ro xs.length rc) xs.length ((zsT d xs k).flatMap Spot.put) ∧ Below w.heap.size w wr) (fun _ i _ => xs.length - (intOf i).toNat)
  case atStart => exact ⟨0, Nat.zero_le _, rfl, HO1.out, HB2.out⟩
  case round =>
    clear HO1 HB2
    obtain ⟨k, hk, rfl, hown, hb⟩ := hrel
    have HO := Lib.hid hown
    have HB := Lib.hid hb
    by_cases hlt : k < xs.length
    · rcases own_form hown with ⟨_, q⟩ | ⟨g, cap, e⟩
      · omega
      obtain ⟨rfl, rfl⟩ : ro = some ⟨g, 0, none⟩ ∧ rc = cap := by injection e with q1 q2 q3; exact ⟨q1, q3⟩
      have hzl := zsT_len d xs hk
      obtain ⟨c0, f0, hg, hg0⟩ := own_cellI hown (k * 2) (by omega)
      have c0' := Spot_get0 (zsT d xs k) k (by omega)
      rw [Nat.add_zero, zsT_at d xs hlt] at c0'
      rw [c0'] at c0
      have hxa := spotB_nums (HA.out xs[k] (List.getElem_mem hlt))
      obtain ⟨hTm, hT1, hT2⟩ := tA_angle d xs[k] hxa.1
      have hWr : IntKind.i64.wrap (xs[k].angle + d % 360) = xs[k].angle + d % 360 := by rw [IntKind.wrap_i64]; omega
      have HI2 : Hid (I64 (xs[k].angle + d % 360)) := Lib.hid (by unfold I64; omega)
      have hu : (xs[k].angle + d) % 360 = (tA d xs[k]).angle := by unfold tA; show _ = (xs[k].angle + d % 360) % 360; omega
      have o2 := own_setI hown (k * 2) (by omega) (.int .i64 ((xs[k].angle + d) % 360))
      rw [set_flat0 (zsT d xs k) _ k (by omega), zsT_at d xs hlt, hu] at o2
      have HO2 : Hid (World.ownsRow (wr.setCell ⟨g, k * 2, none⟩ (.int .i64 ((xs[k].angle + d) % 360))).drew w.heap.size 38 2 (.slice (some ⟨g, 0, none⟩) xs.length rc) xs.length ((zsT d xs (k + 1)).flatMap Spot.put)) := Lib.hid (by rw [← zsT_set d xs hlt, hu]; exact o2)
      have HB2 := Lib.hid ((Below.setCell hb (show w.heap.size ≤ g by omega) (.int .i64 ((xs[k].angle + d) % 360)) : Below w.heap.size w (wr.setCell ⟨g, k * 2, none⟩ (.int .i64 ((xs[k].angle + d) % 360)))).drew)
      clear hu
      clear hown hb o2 e hTm hT1 hT2
      go_wp2_with fail
      go_region_with ((go_at_call 26; refine (impl_turn _ _ (by first | exact Hd.out | exact HI2.out)).mono ?_; rintro e w' ⟨rfl, rfl⟩))
      all_goals
        generalize (wr.setCell ⟨g, k * 2, none⟩ (.int .i64 ((xs[k].angle + d) % 360))).drew = w5 at *
        go_wp2_with fail
        go_roundw
      all_goals first
        | exact ⟨k + 1, by omega, by go_num, HO2.out, HB2.out⟩
        | (simp [intOf]; omega)
    · obtain rfl : k = xs.length := by omega
      rw [zsT_all] at HO
      clear hown hb
      go_wp2_with fail
      refine (sort_ownSp _ w.heap.size _ (xs.map (tA d)) (by rw [List.length_map]; exact HO.out) (by rw [List.length_map]; exact hl)).mono ?_; rintro e w4 ⟨rfl, ys, hp, hs, o4, g4⟩
      have ey := turned_is HV.out hp hs
      subst ey
      have hB4 := grown_below HB.out HO.out HB.out.size g4
      have O4 := Lib.hid o4; clear o4 g4 hp hs
      go_wp2_with fail
      go_ret2
      refine ⟨_, rfl, ?_, hB4⟩
      have := O4.out
      rw [List.length_map] at this
      rw [turnF_len HV.out (Nat.le_refl _)]
      exact this
end Go.Proofs.YtockglfoeagahaaGreatDoor
