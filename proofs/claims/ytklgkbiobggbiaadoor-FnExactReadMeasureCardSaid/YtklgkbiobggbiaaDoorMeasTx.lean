/- MeasureText: both sides compute the same. -/
import Derived.Test.YtklgkbiobggbiaaDoorRows
import Derived.Test.YtklgkbiobggbiaaDoorHertz
namespace Go.Proofs.YtklgkbiobggbiaaDoor
open Go.ChangeShapes Go.WideShapes Go.ChangeAt Go.RowKit Go.Deep Go.Joins
set_option linter.unusedVariables false
set_option maxRecDepth 100000
set_option linter.unusedSimpArgs false
def measT (x : Measure) : ByteArray := if measureB x = true then x.bell ++ ⟨#[32]⟩ ++ partT x.part ++ ⟨#[32]⟩ ++ hertzT x.value else ⟨#[]⟩
theorem nameB_size {s : ByteArray} (h : nameB s = true) : s.size ≤ 10 := by
  unfold nameB nameL at h
  simp only [Bool.and_eq_true, decide_eq_true_eq] at h
  have e : s.data.toList.length = s.size := rfl
  omega
theorem hertzT_size (f : Int) (h : 10000 ≤ f ∧ f ≤ 20000000) : (hertzT f).size ≤ 30 := by
  have := decT_size20 (f / 1000) (by omega) (by omega)
  unfold hertzT
  rw [ByteArray.size_append, ByteArray.size_append]
  have h1 : (⟨#[46]⟩ : ByteArray).size = 1 := rfl
  have h2 : (pad3 (f % 1000).toNat).size = 3 := rfl
  omega
theorem measureB_facts {x : Measure} (h : measureB x = true) : x.bell.size ≤ 10 ∧ (1 ≤ x.part ∧ x.part ≤ 5) ∧ 10000 ≤ x.value ∧ x.value ≤ 20000000 := by
  simp only [measureB, Bool.and_eq_true] at h
  exact ⟨nameB_size h.1, inB_true h.2.1, inB_true h.2.2⟩
theorem same_nt (x : ByteArray) : (!(x.toList == x.toList)) = false := by simp
theorem same_t (x : ByteArray) : (x.toList == x.toList) = true := by simp

set_option maxHeartbeats 4000000 in
theorem impl_MeasureText (x : Measure) (w : World) (hx : x.ok) (hp : Pow10 w) :
    Calls Tryd.prog 40 #[.agg #[.string x.bell, .int .i64 x.part, .int .i64 x.value]] w fun e w' => e = .returned (.string (measT x)) ∧ Below w.heap.size w w' := by
  have VB := Lib.hid (Own.new w 31 [.string x.bell, .int .i64 x.part, .int .i64 x.value])
  have B0 : Below w.heap.size w (w.alloc (.cells #[.string x.bell, .int .i64 x.part, .int .i64 x.value] 31)) := by (repeat' (first | (with_reducible exact Below.refl _ _) | (with_reducible assumption) | (with_reducible refine below_dn ?_ _) | (with_reducible refine Below.drew ?_) | (with_reducible refine Below.alloc ?_ ?_ _) | (with_reducible refine Below.setCell ?_ ?_ _) | go_size))
  have HB0 := Lib.hid B0
  cases hb : measureB x
  · have e : Hid (measT x = ⟨#[]⟩) := (if_neg (by rw [hb]; simp) : measT x = ⟨#[]⟩)
    have H := Lib.hid (impl_validMeasure_is x (w.alloc (.cells #[.string x.bell, .int .i64 x.part, .int .i64 x.value] 31)) hb hx)
    clear hb B0
    go_enter Tryd.func40, Tryd.ntmps40
    go_wp2_with fail
    refine H.out.mono ?_; rintro e1 w1 ⟨rfl, b1⟩
    have HB1 := Lib.hid (bnext HB0.out b1)
    clear b1
    go_wp2_with fail
    go_ret
    exact ⟨by rw [e.out]; try rfl, HB1.out⟩
  · have H := Lib.hid (impl_validMeasure_is x (w.alloc (.cells #[.string x.bell, .int .i64 x.part, .int .i64 x.value] 31)) hb hx)
    obtain ⟨f1, f2, f3⟩ := measureB_facts hb
    have e : Hid (measT x = x.bell ++ ⟨#[32]⟩ ++ partT x.part ++ ⟨#[32]⟩ ++ hertzT x.value) := (if_pos hb : measT x = _)
    have HJ := Lib.hid (fun w' x0 => aboveC (impl_PartialName x.part (above w' x0) f2))
    have HD := Lib.hid (fun w' (h' : Below w.heap.size w w') x0 => aboveC (impl_HertzText x.value (above w' x0) f3 ((hp.below h').below (above_below _ _))))
    have s1 : (x.bell ++ (⟨#[32]⟩ : ByteArray)).size = x.bell.size + 1 := by rw [ByteArray.size_append]; rfl
    have s2 : (x.bell ++ (⟨#[32]⟩ : ByteArray) ++ partT x.part).size = x.bell.size + 1 + (partT x.part).size := by rw [ByteArray.size_append, s1]
    have s3 : (x.bell ++ (⟨#[32]⟩ : ByteArray) ++ partT x.part ++ ⟨#[32]⟩).size = x.bell.size + 1 + (partT x.part).size + 1 := by rw [ByteArray.size_append, s2]; rfl
    have s0 : (⟨#[32]⟩ : ByteArray).size = 1 := rfl
    have g1 := partT_size x.part f2
    have g2 := hertzT_size x.value f3
    clear hb B0 hp
    generalize partT x.part = J at *
    generalize hertzT x.value = D at *
    go_enter Tryd.func40, Tryd.ntmps40
    go_wp2_with fail
    refine H.out.mono ?_; rintro e1 w1 ⟨rfl, b1⟩
    have HB1 := Lib.hid (bnext HB0.out b1)
    have HV1 := Lib.hid (VB.out.below b1 VB.out.lt)
    have v0 : (_ : Option Value) = some (.string x.bell) := HV1.out.cell 0
    have v1 : (_ : Option Value) = some (.int .i64 x.part) := HV1.out.cell 1
    have v2 : (_ : Option Value) = some (.int .i64 x.value) := HV1.out.cell 2
    have vl := HV1.out.lt
    clear b1
    go_wp2_with fail
    refine wp_region_above (by kernel_rfl) (by kernel_rfl) ?_
    repeat (go_big_quiet_step ((first | (go_at_call 37; exact (HJ.out _ _)) | (go_at_call 76; exact (HD.out _ HB1.out _)))))
    refine wpQuiet_nil ?_
    intro w2 b2
    have HB2 := Lib.hid (bnext HB1.out b2)
    clear b2
    go_wp2_with fail
    go_ret
    exact ⟨by rw [e.out]; try rfl, HB2.out⟩
end Go.Proofs.YtklgkbiobggbiaaDoor
