/- IngotText: both sides compute the same. -/
import Derived.Test.YtklgkbiobggbiaaDoorRows
import Derived.Test.YtklgkbiobggbiaaDoorListTx
import Derived.Test.YtklgkbiobggbiaaDoorOneIngot
import Derived.Deep.RegionHeld3
namespace Go.Proofs.YtklgkbiobggbiaaDoor
open Go.ChangeShapes Go.WideShapes Go.ChangeAt Go.RowKit Go.Deep Go.Joins
set_option linter.unusedVariables false
set_option maxRecDepth 100000
set_option linter.unusedSimpArgs false
theorem rd4 (W : World) (a b c d : Int) (n : Nat) (hn : W.heap.size = n) : Rd (W.alloc (.cells #[.int .i64 a, .int .i64 b, .int .i64 c, .int .i64 d] 2)).heap.size (W.alloc (.cells #[.int .i64 a, .int .i64 b, .int .i64 c, .int .i64 d] 2)) (.slice (some ⟨n, 0, none⟩) 4 4) 1 4 ([a, b, c, d].flatMap putI) := by
  have o := Own.newAt 2 [.int .i64 a, .int .i64 b, .int .i64 c, .int .i64 d] hn
  exact o.rd o.lt (n := 4) rfl (by unfold maxLen; omega) _ (Nat.le_refl _) (by unfold maxLen; omega)
theorem rd4d (W : World) (a b c d : Int) : Rd (W.alloc (.cells #[.int .i64 a, .int .i64 b, .int .i64 c, .int .i64 d] 2)).drew.heap.size (W.alloc (.cells #[.int .i64 a, .int .i64 b, .int .i64 c, .int .i64 d] 2)).drew (.slice (some ⟨W.heap.size, 0, none⟩) 4 4) 1 4 ([a, b, c, d].flatMap putI) := rd4 W a b c d _ rfl
def ingT (x : Ingot) : ByteArray := if ingotB x = true then x.id ++ ⟨#[32]⟩ ++ listT [x.mass, x.alloy.copper, x.alloy.tin, x.alloy.other] else ⟨#[]⟩
theorem nameB_size {s : ByteArray} (h : nameB s = true) : s.size ≤ 10 := by
  unfold nameB nameL at h
  simp only [Bool.and_eq_true, decide_eq_true_eq] at h
  have e : s.data.toList.length = s.size := rfl
  omega
theorem ingotB_facts {x : Ingot} (h : ingotB x = true) : x.id.size ≤ 10 ∧ ∀ z ∈ [x.mass, x.alloy.copper, x.alloy.tin, x.alloy.other], 0 ≤ z ∧ z ≤ 1000000000000 := by
  simp only [ingotB, alloyB, Bool.and_eq_true] at h
  have h1 := inB_true h.2.1
  have h2 := inB_true h.2.2.1
  have h3 := inB_true h.2.2.2.1
  have h4 := inB_true h.2.2.2.2.1
  refine ⟨nameB_size h.1, fun z hz => ?_⟩
  simp at hz
  rcases hz with rfl | rfl | rfl | rfl <;> omega
theorem same_nt (x : ByteArray) : (!(x.toList == x.toList)) = false := by simp
theorem same_t (x : ByteArray) : (x.toList == x.toList) = true := by simp

set_option maxHeartbeats 4000000 in
theorem impl_IngotText (x : Ingot) (w : World) (hx : x.ok) (hp : Pow10 w) :
    Calls Tryd.prog 26 #[.agg #[.string x.id, .int .i64 x.mass, .int .i64 x.alloy.copper, .int .i64 x.alloy.tin, .int .i64 x.alloy.other]] w fun e w' => e = .returned (.string (ingT x)) ∧ Below w.heap.size w w' := by
  have VB := Lib.hid (Own.new w 25 [.string x.id, .int .i64 x.mass, .int .i64 x.alloy.copper, .int .i64 x.alloy.tin, .int .i64 x.alloy.other])
  have B0 : Below w.heap.size w (w.alloc (.cells #[.string x.id, .int .i64 x.mass, .int .i64 x.alloy.copper, .int .i64 x.alloy.tin, .int .i64 x.alloy.other] 25)) := by (repeat' (first | (with_reducible exact Below.refl _ _) | (with_reducible assumption) | (with_reducible refine below_dn ?_ _) | (with_reducible refine Below.drew ?_) | (with_reducible refine Below.alloc ?_ ?_ _) | (with_reducible refine Below.setCell ?_ ?_ _) | go_size))
  have HB0 := Lib.hid B0
  cases hb : ingotB x
  · have e : Hid (ingT x = ⟨#[]⟩) := (if_neg (by rw [hb]; simp) : ingT x = ⟨#[]⟩)
    have H := Lib.hid (impl_validIngot_is x (w.alloc (.cells #[.string x.id, .int .i64 x.mass, .int .i64 x.alloy.copper, .int .i64 x.alloy.tin, .int .i64 x.alloy.other] 25)) hb hx)
    clear hb B0
    go_enter Tryd.func26, Tryd.ntmps26
    go_wp2_with fail
    refine H.out.mono ?_; rintro e1 w1 ⟨rfl, b1⟩
    have HB1 := Lib.hid (bnext HB0.out b1)
    clear b1
    go_wp2_with fail
    go_ret
    exact ⟨by rw [e.out]; try rfl, HB1.out⟩
  · have H := Lib.hid (impl_validIngot_is x (w.alloc (.cells #[.string x.id, .int .i64 x.mass, .int .i64 x.alloy.copper, .int .i64 x.alloy.tin, .int .i64 x.alloy.other] 25)) hb hx)
    obtain ⟨f1, f2⟩ := ingotB_facts hb
    have e : Hid (ingT x = x.id ++ ⟨#[32]⟩ ++ listT [x.mass, x.alloy.copper, x.alloy.tin, x.alloy.other]) := (if_pos hb : ingT x = _)
    have HL := Lib.hid (fun w' v (h : Rd w'.heap.size w' v 1 4 ([x.mass, x.alloy.copper, x.alloy.tin, x.alloy.other].flatMap putI)) (h' : Below w.heap.size w w') => impl_ListText w' v [x.mass, x.alloy.copper, x.alloy.tin, x.alloy.other] h (by simp) (by simp) f2 (hp.below h'))
    have s1 : (x.id ++ (⟨#[32]⟩ : ByteArray)).size = x.id.size + 1 := by rw [ByteArray.size_append]; rfl
    have s0 : (⟨#[32]⟩ : ByteArray).size = 1 := rfl
    have g2 := listT_size _ f2
    simp only [List.length_cons, List.length_nil] at g2
    have q1 : ¬ (9223372036854775807 < x.id.size + 1) := by omega
    have q2 : ¬ (9223372036854775807 ≤ x.id.size) := by omega
    have q3 : ¬ (9223372036854775807 < x.id.size + 1 + (listT [x.mass, x.alloy.copper, x.alloy.tin, x.alloy.other]).size) := by omega
    generalize listT [x.mass, x.alloy.copper, x.alloy.tin, x.alloy.other] = J at *
    clear hb B0 hp f2
    go_enter Tryd.func26, Tryd.ntmps26
    go_wp2_with fail
    refine H.out.mono ?_; rintro e1 w1 ⟨rfl, b1⟩
    have HB1 := Lib.hid (bnext HB0.out b1)
    have HV1 := Lib.hid (VB.out.below b1 VB.out.lt)
    have c0 := HV1.out.cell 0
    have c1 := HV1.out.cell 1
    have c2 := HV1.out.cell 2
    have c3 := HV1.out.cell 3
    have c4 := HV1.out.cell 4
    have ha := HV1.out.lt
    have hws := HB1.out.size
    clear b1
    go_wp2_with fail
    go_region_held3 (fun w' => w'.cell? ⟨w.heap.size, 0, none⟩ = some (.string x.id) ∧ w'.cell? ⟨w.heap.size, 1, none⟩ = some (.int .i64 x.mass) ∧ w'.cell? ⟨w.heap.size, 2, none⟩ = some (.int .i64 x.alloy.copper) ∧ w'.cell? ⟨w.heap.size, 3, none⟩ = some (.int .i64 x.alloy.tin) ∧ w'.cell? ⟨w.heap.size, 4, none⟩ = some (.int .i64 x.alloy.other)) (first | assumption | go_keep) (first
      | (go_at_call 60
         refine (HL.out _ _ (rd4d _ _ _ _ _) (HB1.out.trans ((by (repeat' (first | (with_reducible exact Below.refl _ _) | (with_reducible assumption) | (with_reducible refine below_dn ?_ _) | (with_reducible refine Below.drew ?_) | (with_reducible refine Below.alloc ?_ ?_ _) | (with_reducible refine Below.setCell ?_ ?_ _) | go_size)) : Below w1.heap.size w1 _).mono hws))).mono ?_; rintro e1 w2 ⟨rfl, b2⟩
         have B2 : Below w1.heap.size w1 w2 := Below.trans (by (repeat' (first | (with_reducible exact Below.refl _ _) | (with_reducible assumption) | (with_reducible refine below_dn ?_ _) | (with_reducible refine Below.drew ?_) | (with_reducible refine Below.alloc ?_ ?_ _) | (with_reducible refine Below.setCell ?_ ?_ _) | go_size))) (b2.mono (by simp <;> omega))
         have V2 := Lib.hid (HV1.out.below B2 HV1.out.lt)
         have HS2 : w2.cell? ⟨w.heap.size, 0, none⟩ = some (.string x.id) ∧ w2.cell? ⟨w.heap.size, 1, none⟩ = some (.int .i64 x.mass) ∧ w2.cell? ⟨w.heap.size, 2, none⟩ = some (.int .i64 x.alloy.copper) ∧ w2.cell? ⟨w.heap.size, 3, none⟩ = some (.int .i64 x.alloy.tin) ∧ w2.cell? ⟨w.heap.size, 4, none⟩ = some (.int .i64 x.alloy.other) := ⟨V2.out.cell 0, V2.out.cell 1, V2.out.cell 2, V2.out.cell 3, V2.out.cell 4⟩
         have HB2 := Lib.hid (bnext HB1.out B2)
         clear b2))
    go_wp2_with fail
    go_ret
    exact ⟨by rw [e.out]; try rfl, HB2.out⟩
end Go.Proofs.YtklgkbiobggbiaaDoor
