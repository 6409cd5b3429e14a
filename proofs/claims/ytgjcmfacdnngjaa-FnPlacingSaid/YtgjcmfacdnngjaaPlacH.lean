/- FnPlacing: the holes into which a mould fits: holesFor, HolesFor. -/
import Derived.Test.YtgjcmfacdnngjaaRows
import Derived.Test.YtgjcmfacdnngjaaPlacL2
import Derived.Test.YtgjcmfacdnngjaaAcc
import Derived.Test.YtgjcmfacdnngjaaVHole
import Derived.Test.YtgjcmfacdnngjaaAddL
import Derived.Test.YtgjcmfacdnngjaaOwnK
namespace Go.Proofs.Ytgjcmfacdnngjaa
open Go.ChangeShapes Go.WideShapes Go.ChangeAt Go.RowKit Go.Deep Go.Joins
set_option linter.unusedVariables false
set_option maxRecDepth 100000
set_option linter.unusedSimpArgs false
theorem outsnocN (c : List Nat) (k : Nat) : (intsN (c ++ [k])).flatMap putI = (intsN c).flatMap putI ++ [.int .i64 (k : Int)] := by unfold intsN; rw [List.map_append, List.flatMap_append]; rfl
set_option maxHeartbeats 4000000 in
theorem impl_holesFor (w : World) (x : Profile) (lo : Option Addr) (lc : Nat) (wall : Int) (v : Value) (hs : List Hole) (h : Rd w.heap.size w (.slice lo x.rings.length lc) 3 x.rings.length (x.rings.flatMap Ring.put)) (hl : x.rings.length ≤ 32) (hv : ∀ r ∈ x.rings, ringB r = true) (hw : 1 ≤ wall ∧ wall ≤ 150000) (hh : Rd w.heap.size w v 3 hs.length (hs.flatMap Hole.put)) (hn : hs.length ≤ 8) :
    Calls Try.prog 21 #[.agg #[.string x.name, .slice lo x.rings.length lc], .int .i64 wall, v] w fun e w' => ∃ r : Value, e = .returned r ∧ w'.ownsRow w.heap.size 2 1 r (fitsN x wall hs hs.length).length ((intsN (fitsN x wall hs hs.length)).flatMap putI) ∧ Below w.heap.size w w' := by
  have HF : Hid (∀ (hole : Hole) (w' : World), Below w.heap.size w w' → Calls Try.prog 24 #[.agg #[.string x.name, .slice lo x.rings.length lc], .int .i64 wall, .agg #[.string hole.name, .int .i64 hole.radius, .int .i64 hole.depth]] w' fun e w'' => e = .returned (.bool (fitsHoleB x wall hole)) ∧ Below w'.heap.size w' w'') := Lib.hid (fun hole w' hb' => impl_fitsHole w' x lo lc hole wall (h.up hb') hl hv hw)
  have M1 := Lib.hid (Own.new w 28 [.string x.name, .slice lo x.rings.length lc])
  clear h hl hv hw
  obtain ⟨hL, vo, vc, rfl, hcap1, hmax1, hnil1, hsome1⟩ := hh
  obtain ⟨i0, hi, hz0, hz1, hz2⟩ := info_parts info_i64
  generalize x.rings.length = nr at *
  go_enter Try.func21, Try.ntmps21
  go_wp2
  go_loopw [7, 12] (fun r i wr => ∃ (k : Nat), k ≤ hs.length ∧ i = .int .i64 k ∧ wr.ownsRow w.heap.size 2 1 r (fitsN x wall hs k).length ((intsN (fitsN x wall hs k)).flatMap putI) ∧ Own wr w.heap.size 28 [.string x.name, .slice lo nr lc] ∧ Below w.heap.size w wr) (fun _ i _ => hs.length - (intOf i).toNat)
  case atStart => exact ⟨0, Nat.zero_le _, rfl, own_nil _ _ _ _, M1.out, by (repeat' (first | (with_reducible exact Below.refl _ _) | (with_reducible assumption) | (with_reducible refine below_dn ?_ _) | (with_reducible refine Below.drew ?_) | (with_reducible refine Below.alloc ?_ ?_ _) | (with_reducible refine Below.setCell ?_ ?_ _) | go_size))⟩
  case round =>
    clear M1
    obtain ⟨k, hk, rfl, hown, hprof, hb⟩ := hrel
    have HO := Lib.hid hown; clear hown
    have HP := Lib.hid hprof
    have hpl := hprof.lt
    clear hprof
    by_cases hlt : k < hs.length
    · have hfl := fitsN_len x wall hs k
      obtain ⟨b3, off3, rfl, hbB3, hc3⟩ := hsome1 (by omega)
      have c0 : wr.cell? ⟨b3, off3 + k * 3, none⟩ = some (.string hs[k].name) := by rw [show off3 + k * 3 = off3 + (k * 3 + 0) from by omega, hb.cell (p := ⟨b3, off3 + (k * 3 + 0), none⟩) hbB3, hc3 (k * 3 + 0) (by omega), Hole_get0 hs k hlt]
      have c1 : wr.cell? ⟨b3, off3 + k * 3 + 1, none⟩ = some (.int .i64 hs[k].radius) := by rw [show off3 + k * 3 + 1 = off3 + (k * 3 + 1) from by omega, hb.cell (p := ⟨b3, off3 + (k * 3 + 1), none⟩) hbB3, hc3 (k * 3 + 1) (by omega), Hole_get1 hs k hlt]
      have c2 : wr.cell? ⟨b3, off3 + k * 3 + 2, none⟩ = some (.int .i64 hs[k].depth) := by rw [show off3 + k * 3 + 2 = off3 + (k * 3 + 2) from by omega, hb.cell (p := ⟨b3, off3 + (k * 3 + 2), none⟩) hbB3, hc3 (k * 3 + 2) (by omega), Hole_get2 hs k hlt]
      have p0 : wr.cell? ⟨w.heap.size, 0, none⟩ = some (.string x.name) := HP.out.cell 0
      have p1 : wr.cell? ⟨w.heap.size, 1, none⟩ = some (.slice lo nr lc) := HP.out.cell 1
      have hws := hb.size
      have hbr3 : b3 < wr.heap.size := Nat.lt_of_lt_of_le hbB3 hws
      have HB2 := Lib.hid (hb.alloc hws (.cells #[.string hs[k].name, .int .i64 hs[k].radius, .int .i64 hs[k].depth] 38))
      have HO2 := Lib.hid (HO.out.alloc (.cells #[.string hs[k].name, .int .i64 hs[k].radius, .int .i64 hs[k].depth] 38))
      have HP2 := Lib.hid (HP.out.alloc (.cells #[.string hs[k].name, .int .i64 hs[k].radius, .int .i64 hs[k].depth] 38))
      have HFk := Lib.hid (HF.out hs[k])
      have hf := fitsN_succ x wall hs k hlt
      clear hc3 hsome1 hnil1 hb HP
      cases hF : fitsHoleB x wall hs[k]
      all_goals rw [hF] at HFk hf
      · have ef : Hid (fitsN x wall hs (k + 1) = fitsN x wall hs k) := Lib.hid (by rw [hf]; simp)
        clear hF hf hi hz0 hz1 hz2
        go_wp2_with fail
        refine (HFk.out _ (by exact HB2.out)).mono ?_; rintro e2 w2 ⟨rfl, b2⟩
        have HO3 := Lib.hid (own_below HO2.out b2 (Nat.le_refl _))
        have HP3 := Lib.hid (HP2.out.below b2 HP2.out.lt)
        have HB3 := Lib.hid (HB2.out.trans (b2.mono HB2.out.size))
        clear b2
        go_wp2_with fail
        go_roundw
        case rel => exact ⟨k + 1, by omega, by go_num, by rw [ef.out]; exact HO3.out, HP3.out, HB3.out⟩
        case measure => simp [intOf]; omega
      · have ef : Hid (fitsN x wall hs (k + 1) = fitsN x wall hs k ++ [k]) := Lib.hid (by rw [hf]; rfl)
        clear hF hf
        go_wp2_with fail
        refine (HFk.out _ (by exact HB2.out)).mono ?_; rintro e2 w2 ⟨rfl, b2⟩
        have HO3 := Lib.hid (own_below HO2.out b2 (Nat.le_refl _))
        have HP3 := Lib.hid (HP2.out.below b2 HP2.out.lt)
        have HB3 := Lib.hid (HB2.out.trans (b2.mono HB2.out.size))
        have hws2 := HB3.out.size
        have hap := own_apart_type HO3.out HP3.out (by decide)
        clear b2
        go_wp2_with (at_builtin; refine app_elK rfl _ _ 32 2 i0 (.int .i64 0) 1 8 Try.underlying32 hi hz0 hz1 hz2 (by rfl) (by decide) rfl w2 w.heap.size _ _ ((intsN (fitsN x wall hs k)).flatMap putI) (by rfl) HO3.out [.int .i64 k] rfl (by intro u hu; simp at hu; subst hu; rfl) (by rfl) (by omega) (by decide) hws2 rfl ?_; intro g gc w3 hown3 hB3 hK3 hz; have HB4 := Lib.hid (hB3 w HB3.out); have HO4 := Lib.hid hown3; have HP4 := Lib.hid (hK3 _ _ _ HP3.out hap); clear hown3 hB3 hK3)
        go_roundw
        case rel => exact ⟨k + 1, by omega, by go_num, by rw [ef.out, outsnocN, List.length_append]; exact HO4.out, HP4.out, HB4.out⟩
        case measure => simp [intOf]; omega
    · have em : k = hs.length := by omega
      subst em
      have HB := Lib.hid hb; clear hb hsome1 hnil1 hi hz0 hz1 hz2
      go_wp2
      go_ret
      exact ⟨_, rfl, HO.out, HB.out⟩
end Go.Proofs.Ytgjcmfacdnngjaa
