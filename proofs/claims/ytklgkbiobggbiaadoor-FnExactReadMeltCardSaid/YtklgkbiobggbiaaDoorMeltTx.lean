/- MeltText: both sides compute the same. -/
import Derived.Test.YtklgkbiobggbiaaDoorRows
import Derived.Test.YtklgkbiobggbiaaDoorJoin
import Derived.Test.YtklgkbiobggbiaaDoorVMelt
import Derived.Test.YtklgkbiobggbiaaDoorVMeltI
namespace Go.Proofs.YtklgkbiobggbiaaDoor
open Go.ChangeShapes Go.WideShapes Go.ChangeAt Go.RowKit Go.Deep Go.Joins
set_option linter.unusedVariables false
set_option maxRecDepth 100000
set_option linter.unusedSimpArgs false
def meltT (x : Melt) : ByteArray := if meltB x = true then x.id ++ ⟨#[32]⟩ ++ joinT 44 x.ingots ++ ⟨#[32]⟩ ++ decT x.mass else ⟨#[]⟩
theorem nameB_size {s : ByteArray} (h : nameB s = true) : s.size ≤ 10 := by
  unfold nameB nameL at h
  simp only [Bool.and_eq_true, decide_eq_true_eq] at h
  have e : s.data.toList.length = s.size := rfl
  omega
theorem meltB_facts {x : Melt} (h : meltB x = true) : x.id.size ≤ 10 ∧ 1 ≤ x.ingots.length ∧ x.ingots.length ≤ 16 ∧ (∀ a ∈ x.ingots, a.size ≤ 10) ∧ 1 ≤ x.mass ∧ x.mass ≤ 320000000 := by
  simp only [meltB, Bool.and_eq_true, decide_eq_true_eq] at h
  obtain ⟨h1, h2, h3, h4, h5⟩ := h
  refine ⟨nameB_size h1, h2, h3, fun a ha => ?_, inB_true h5⟩
  obtain ⟨i, hi, rfl⟩ := List.mem_iff_getElem.1 ha
  have := allK_true h4 i hi
  unfold stepB at this
  rw [List.getElem?_eq_getElem hi] at this
  simp only [Bool.and_eq_true] at this
  exact nameB_size this.1
theorem decT_size (n : Int) (h0 : 0 < n) (h1 : n ≤ 9223372036854775807) : (decT n).size ≤ 20 := by
  obtain ⟨N, rfl⟩ : ∃ N : Nat, n = (N : Int) := ⟨n.toNat, by omega⟩
  have hd := decD_len N (by omega)
  unfold decD at hd
  rw [if_neg (by omega)] at hd
  have e : (decT (N : Int)).size = (Lib.decDigits N).length := by
    unfold decT Lib.itoa ByteArray.size
    rw [if_neg (by omega)]
    simp
  omega
theorem meltT_parts {x : Melt} (h : meltB x = true) : (joinT 44 x.ingots).size ≤ 176 ∧ (decT x.mass).size ≤ 20 := by
  obtain ⟨h1, h2, h3, h4, h5, h6⟩ := meltB_facts h
  have := joinT_size 44 10 x.ingots h4
  have h7 : (1 + 10) * x.ingots.length ≤ 11 * 16 := Nat.mul_le_mul_left 11 h3
  exact ⟨by omega, decT_size _ (by omega) (by omega)⟩
theorem spec_l14One_is {b : Bool} (x : Melt) (a o : Nat) (w : World) (hx : x.ok w) (hn : x.ingots.length ≤ 1048576) (h0 : w.cell? ⟨a, o, none⟩ = some (.string x.id)) (h1 : w.cell? ⟨a, o + 1, none⟩ = some x.list) (h2 : w.cell? ⟨a, o + 2, none⟩ = some (.int .i64 x.mass)) (ha : a < w.heap.size) (hb : meltB x = b) :
    Calls Tryd.prog 78 #[.pointer (some ⟨a, o, none⟩)] w fun e w' => e = .returned (.bool b) ∧ Below w.heap.size w w' := by
  subst hb; exact spec_l14One x a o w hx hn h0 h1 h2 ha

set_option maxHeartbeats 4000000 in
theorem impl_MeltText (x : Melt) (w : World) (hx : x.ok w) (hn : x.ingots.length ≤ 1048576) (hp : Pow10 w) :
    Calls Tryd.prog 44 #[.agg #[.string x.id, x.list, .int .i64 x.mass]] w fun e w' => e = .returned (.string (meltT x)) ∧ Below w.heap.size w w' := by
  have hr := hx.2.1.1
  have VB := Lib.hid (Own.new w 37 [.string x.id, x.list, .int .i64 x.mass])
  have B0 : Below w.heap.size w (w.alloc (.cells #[.string x.id, x.list, .int .i64 x.mass] 37)) := by (repeat' (first | (with_reducible exact Below.refl _ _) | (with_reducible assumption) | (with_reducible refine below_dn ?_ _) | (with_reducible refine Below.drew ?_) | (with_reducible refine Below.alloc ?_ ?_ _) | (with_reducible refine Below.setCell ?_ ?_ _) | go_size))
  have HB0 := Lib.hid B0
  obtain ⟨lo, lc, el⟩ := hr.form
  cases hb : meltB x
  · have e : Hid (meltT x = ⟨#[]⟩) := (if_neg (by rw [hb]; simp) : meltT x = ⟨#[]⟩)
    have H := Lib.hid (impl_ValidMelt_is x _ ⟨hx.1, ⟨hx.2.1.1.up B0, hx.2.1.2⟩, hx.2.2⟩ hn hb)
    rw [el] at H HB0 VB ⊢
    clear hx hr hb B0 hp el
    go_enter Tryd.func44, Tryd.ntmps44
    go_wp2_with fail
    refine H.out.mono ?_; rintro e1 w1 ⟨rfl, b1⟩
    have HB1 := Lib.hid (bnext HB0.out b1)
    clear b1
    go_wp2_with fail
    go_ret
    exact ⟨by rw [e.out]; try rfl, HB1.out⟩
  · have H := Lib.hid (impl_ValidMelt_is x _ ⟨hx.1, ⟨hx.2.1.1.up B0, hx.2.1.2⟩, hx.2.2⟩ hn hb)
    obtain ⟨f1, f2, f3, f4, f5, f6⟩ := meltB_facts hb
    obtain ⟨g1, g2⟩ := meltT_parts hb
    have e : Hid (meltT x = x.id ++ ⟨#[32]⟩ ++ joinT 44 x.ingots ++ ⟨#[32]⟩ ++ decT x.mass) := (if_pos hb : meltT x = _)
    have HJ := Lib.hid (fun w' (h' : Below w.heap.size w w') x0 => aboveC (impl_join 44 (above w' x0) x.list x.ingots ((hr.up h').up (above_below _ _)) (by omega) (by omega) 10 (by omega) f4))
    have HD := Lib.hid (fun w' (h' : Below w.heap.size w w') x0 => aboveC (impl_Decimal x.mass (above w' x0) (by omega) (by omega) ((hp.below h').below (above_below _ _))))
    have s1 : (x.id ++ (⟨#[32]⟩ : ByteArray)).size = x.id.size + 1 := by rw [ByteArray.size_append]; rfl
    have s2 : (x.id ++ (⟨#[32]⟩ : ByteArray) ++ joinT 44 x.ingots).size = x.id.size + 1 + (joinT 44 x.ingots).size := by rw [ByteArray.size_append, s1]
    have s3 : (x.id ++ (⟨#[32]⟩ : ByteArray) ++ joinT 44 x.ingots ++ ⟨#[32]⟩).size = x.id.size + 1 + (joinT 44 x.ingots).size + 1 := by rw [ByteArray.size_append, s2]; rfl
    have s0 : (⟨#[32]⟩ : ByteArray).size = 1 := rfl
    rw [el] at H HB0 VB HJ ⊢
    clear hx hr hb B0 hp el f4
    generalize joinT 44 x.ingots = J at *
    generalize decT x.mass = D at *
    go_enter Tryd.func44, Tryd.ntmps44
    go_wp2_with fail
    refine H.out.mono ?_; rintro e1 w1 ⟨rfl, b1⟩
    have HB1 := Lib.hid (bnext HB0.out b1)
    have HV1 := Lib.hid (VB.out.below b1 VB.out.lt)
    have v0 : (_ : Option Value) = some (.string x.id) := HV1.out.cell 0
    have v1 : (_ : Option Value) = some (.slice lo x.ingots.length lc) := HV1.out.cell 1
    have v2 : (_ : Option Value) = some (.int .i64 x.mass) := HV1.out.cell 2
    have vl := HV1.out.lt
    clear b1
    go_wp2_with fail
    refine wp_region_above (by kernel_rfl) (by kernel_rfl) ?_
    repeat (go_big_quiet_step ((first | (go_at_call 53; exact (HJ.out _ HB1.out _)) | (go_at_call 81; exact (HD.out _ HB1.out _)))))
    refine wpQuiet_nil ?_
    intro w2 b2
    have HB2 := Lib.hid (bnext HB1.out b2)
    clear b2
    go_wp2_with fail
    go_ret
    exact ⟨by rw [e.out]; try rfl, HB2.out⟩

theorem impl_MeltTextL (x : Melt) (l : Value) (w : World) (hx : x.ok w) (h : Rd w.heap.size w l 1 x.ingots.length (x.ingots.flatMap putStr)) (hn : x.ingots.length ≤ 1048576) (hp : Pow10 w) :
    Calls Tryd.prog 44 #[.agg #[.string x.id, l, .int .i64 x.mass]] w fun e w' => e = .returned (.string (meltT x)) ∧ Below w.heap.size w w' :=
  impl_MeltText ⟨x.id, l, x.ingots, x.mass⟩ w ⟨hx.1, ⟨h, hx.2.1.2⟩, hx.2.2⟩ hn hp
theorem same_nt (x : ByteArray) : (!(x.toList == x.toList)) = false := by simp
theorem same_t (x : ByteArray) : (x.toList == x.toList) = true := by simp
end Go.Proofs.YtklgkbiobggbiaaDoor
