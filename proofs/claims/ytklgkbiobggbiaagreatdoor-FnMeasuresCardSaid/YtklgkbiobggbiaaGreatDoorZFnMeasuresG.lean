/- Contracts and plain facts, joined: MeasLaw, DrawMs, Num, NumI, StepApp, HSpot, OneSpot, VSpot, AddL, Parts. -/
import Derived.Test.YtklgkbiobggbiaaGreatDoorRows
import Derived.Test.YtklgkbiobggbiaaGreatDoorZFnMeasuresF
import Derived.Deep.RegionHeld3
import Derived.Shelf.Strings.Prefix
import Derived.Shelf.Strconv.ParseIntPublic10
import Derived.Shelf.Strconv.ErrVarParseInt
import Derived.Shelf.Strings.SplitShaped
import Derived.Shelf.Strings.Shaped
import Derived.Lib.AtoiErrMem
namespace Go.Proofs.YtklgkbiobggbiaaGreatDoor
open Go.ChangeShapes Go.WideShapes Go.ChangeAt Go.RowKit Go.Deep Go.Joins
set_option linter.unusedVariables false
set_option maxRecDepth 100000
set_option linter.unusedSimpArgs false
theorem fine_mono {x x' : Int} (h0 : 0 ≤ x) (h : x ≤ x') (h1 : x' < 2147483648) : ∀ k, (fineIt x k).2 < (fineIt x' k).2 ∨ ((fineIt x k).2 = (fineIt x' k).2 ∧ (fineIt x k).1 ≤ (fineIt x' k).1)
  | 0 => .inr ⟨rfl, h⟩
  | k + 1 => by
    have ih := fine_mono h0 h h1 k
    obtain ⟨a1, a2, a3, a4⟩ := fineIt_bd h0 (show x < 2147483648 by omega) k
    obtain ⟨b1, b2, b3, b4⟩ := fineIt_bd (show 0 ≤ x' by omega) h1 k
    have e : ∀ z : Int, fineIt z (k + 1) = fineStep (fineIt z k) := fun z => rfl
    rw [e, e]
    generalize fineIt x k = p at *
    generalize fineIt x' k = q at *
    have hsq : p.1 ≤ q.1 → p.1 * p.1 ≤ q.1 * q.1 := fun hh => Int.mul_le_mul hh hh a1 b1
    unfold fineStep
    rcases ih with ih | ⟨ih1, ih2⟩
    · left
      split <;> split <;> (simp only; omega)
    · have hs := hsq ih2
      generalize p.1 * p.1 = s at *
      generalize q.1 * q.1 = t at *
      by_cases c1 : 2147483648 ≤ s / 1073741824
      · rw [if_pos c1, if_pos (by omega)]
        right
        exact ⟨by simp only; omega, by simp only; omega⟩
      · rw [if_neg c1]
        by_cases c2 : 2147483648 ≤ t / 1073741824
        · rw [if_pos c2]
          left
          simp only; omega
        · rw [if_neg c2]
          right
          exact ⟨by simp only; omega, by simp only; omega⟩
theorem hiBit_mono {n m : Int} (h1 : 10000 ≤ n) (h : n ≤ m) (h2 : m ≤ 20000000) : hiBit n ≤ hiBit m := by
  obtain ⟨_, a3, a4, a5, a6⟩ := hiBit_spec h1 (show n ≤ 20000000 by omega)
  obtain ⟨_, b3, b4, b5, b6⟩ := hiBit_spec (show 10000 ≤ m by omega) h2
  rcases Nat.lt_or_ge (hiBit m) (hiBit n) with q | q
  · have : 2 ^ (hiBit m + 1) ≤ 2 ^ hiBit n := Nat.pow_le_pow_right (by omega) (by omega)
    omega
  · exact q
theorem fineI_mono {n m : Int} (h1 : 10000 ≤ n) (h : n ≤ m) (h2 : m ≤ 20000000) : fineI n ≤ fineI m := by
  have hh := hiBit_mono h1 h h2
  have s1 := fine_start h1 (show n ≤ 20000000 by omega)
  have s2 := fine_start (show 10000 ≤ m by omega) h2
  have r1 := fineIt_bd (show 0 ≤ n * 2 ^ (30 - hiBit n) by omega) s1.2 24
  have r2 := fineIt_bd (show 0 ≤ m * 2 ^ (30 - hiBit m) by omega) s2.2 24
  have e : (2 : Int) ^ 24 = 16777216 := by decide
  rw [e] at r1 r2
  unfold fineI
  rcases Nat.lt_or_ge (hiBit n) (hiBit m) with q | q
  · generalize fineIt (n * 2 ^ (30 - hiBit n)) 24 = p at *
    generalize fineIt (m * 2 ^ (30 - hiBit m)) 24 = r at *
    omega
  · have e2 : hiBit n = hiBit m := by omega
    rw [e2] at s1 ⊢
    have hx : n * 2 ^ (30 - hiBit m) ≤ m * 2 ^ (30 - hiBit m) := Int.mul_le_mul_of_nonneg_right h (Int.pow_nonneg (by decide))
    have hm := fine_mono (by omega) hx s2.2 24
    omega
theorem logI_mono {n m : Int} (h1 : 10000 ≤ n) (h : n ≤ m) (h2 : m ≤ 20000000) : logI n ≤ logI m := by
  have := fineI_mono h1 h h2
  unfold logI
  omega
/-- the first and the last of numbers in order -/
def fstI (zs : List Int) : Int := zs[0]?.getD 0
def lstI (zs : List Int) : Int := zs[zs.length - 1]?.getD 0
theorem sorted_ends {zs : List Int} (hs : zs.Pairwise (· ≤ ·)) : ∀ z ∈ zs, fstI zs ≤ z ∧ z ≤ lstI zs := by
  intro z hz
  obtain ⟨i, hi, rfl⟩ := List.mem_iff_getElem.1 hz
  rw [List.pairwise_iff_getElem] at hs
  unfold fstI lstI
  rw [List.getElem?_eq_getElem (show 0 < zs.length by omega), List.getElem?_eq_getElem (show zs.length - 1 < zs.length by omega)]
  constructor
  · by_cases h0 : 0 < i
    · exact hs 0 i (by omega) hi h0
    · obtain rfl : i = 0 := by omega
      exact Int.le_refl _
  · by_cases h0 : i < zs.length - 1
    · exact hs i (zs.length - 1) hi (by omega) h0
    · obtain rfl : i = zs.length - 1 := by omega
      exact Int.le_refl _
theorem ends_mem {zs : List Int} (h0 : 0 < zs.length) : fstI zs ∈ zs ∧ lstI zs ∈ zs := by
  unfold fstI lstI
  rw [List.getElem?_eq_getElem h0, List.getElem?_eq_getElem (show zs.length - 1 < zs.length by omega)]
  exact ⟨List.getElem_mem _, List.getElem_mem _⟩
theorem sum_between (zs : List Int) (a b : Int) (h : ∀ z ∈ zs, a ≤ z ∧ z ≤ b) : (zs.length : Int) * a ≤ zs.sum ∧ zs.sum ≤ (zs.length : Int) * b := by
  induction zs with
  | nil => simp
  | cons z zs ih =>
    have h1 := ih fun y hy => h y (List.mem_cons_of_mem _ hy)
    have h2 := h z (List.mem_cons_self ..)
    rw [List.sum_cons, List.length_cons]
    push_cast
    rw [Int.add_mul, Int.add_mul]
    omega
theorem meanI_between {zs : List Int} (h0 : 0 < zs.length) {a b : Int} (ha : 0 ≤ a) (h : ∀ z ∈ zs, a ≤ z ∧ z ≤ b) : a ≤ meanI zs ∧ meanI zs ≤ b := by
  have hs := sum_between zs a b h
  have hn : (0 : Int) < (zs.length : Int) := by omega
  have hp : 0 ≤ (zs.length : Int) * a := Int.mul_nonneg (by omega) ha
  unfold meanI divR
  rw [if_neg (by omega)]
  have e1 : a * (2 * (zs.length : Int)) = 2 * ((zs.length : Int) * a) := by rw [Int.mul_comm a, Int.mul_assoc]
  have e2 : (b + 1) * (2 * (zs.length : Int)) = 2 * ((zs.length : Int) * b) + 2 * (zs.length : Int) := by rw [Int.add_mul, Int.mul_comm b, Int.mul_assoc]; omega
  refine ⟨Int.le_ediv_of_mul_le (by omega) (by rw [e1]; omega), ?_⟩
  have h3 : (2 * zs.sum + (zs.length : Int)) / (2 * zs.length) < b + 1 := Int.ediv_lt_of_lt_mul (by omega) (by rw [e2]; omega)
  omega
/-- what is known of drawn measurements -/
def drawnM (xs : List Measure) : Prop := (1 ≤ xs.length ∧ xs.length ≤ 10) ∧ ∀ x ∈ xs, measureB x = true ∧ x.bell.size ≤ 10
theorem drawnM_valid {xs : List Measure} (h : drawnM xs) : validMeasureS xs = true := by
  have h1 := h.1
  unfold validMeasureS
  rw [Bool.and_eq_true, decide_eq_true_eq]
  refine ⟨allK_intro fun k hk => ?_, by omega⟩
  unfold oneB
  rw [List.getElem?_eq_getElem hk]
  exact (h.2 xs[k] (List.getElem_mem hk)).1
section
variable {xs : List Measure} {m : Measure}
theorem meas_ask (h : drawnM xs) (hm : m ∈ xs) : askM xs m.bell m.part = 0 := by
  have hv := valF_mem hm
  have hb := (h.2 m hm).1
  simp only [measureB, Bool.and_eq_true] at hb
  refine askM_some (drawnM_valid h) hb.2.1 fun q => ?_
  rw [List.eq_nil_of_length_eq_zero q] at hv
  simp at hv
/-- the values of a measurement's bell and partial -/
def zsM (xs : List Measure) (m : Measure) : List Int := sortI (valF xs m.bell m.part)
theorem zs_facts (h : drawnM xs) (hm : m ∈ xs) : valsS xs m.bell m.part = zsM xs m ∧ meanS xs m.bell m.part = meanI (zsM xs m) ∧ medS xs m.bell m.part = medI (zsM xs m) ∧ spreadS xs m.bell m.part = spI (zsM xs m) := by
  have ha := meas_ask h hm
  exact ⟨valsS_yes ha, if_pos ha, if_pos ha, if_pos ha⟩
theorem zs_mem (hm : m ∈ xs) : m.value ∈ zsM xs m := (sortI_perm _).mem_iff.2 (valF_mem hm)
theorem zs_len (hm : m ∈ xs) : 0 < (zsM xs m).length := List.length_pos_of_mem (zs_mem hm)
theorem zs_bd (h : drawnM xs) (bell : ByteArray) (p : Int) : (sortI (valF xs bell p)).length ≤ 64 ∧ ∀ z ∈ sortI (valF xs bell p), 10000 ≤ z ∧ z ≤ 20000000 := by
  have := valF_all (drawnM_valid h) bell p
  exact ⟨by rw [sortI_len]; exact this.1, fun z hz => this.2 z ((sortI_perm _).mem_iff.1 hz)⟩
theorem zs_between (h : drawnM xs) (hm : m ∈ xs) : (fstI (zsM xs m) ≤ meanI (zsM xs m) ∧ meanI (zsM xs m) ≤ lstI (zsM xs m)) ∧ (fstI (zsM xs m) ≤ medI (zsM xs m) ∧ medI (zsM xs m) ≤ lstI (zsM xs m)) ∧ 0 ≤ spI (zsM xs m) := by
  have h0 := zs_len hm
  have hs : ∀ z ∈ zsM xs m, fstI (zsM xs m) ≤ z ∧ z ≤ lstI (zsM xs m) := sorted_ends (sortI_le (valF xs m.bell m.part))
  have hb : ∀ z ∈ zsM xs m, 10000 ≤ z ∧ z ≤ 20000000 := (zs_bd h m.bell m.part).2
  have he := ends_mem h0
  have b1 := hb _ he.1
  have b2 := hb _ he.2
  refine ⟨meanI_between h0 (by omega) hs, hs _ (medI_mem h0), ?_⟩
  have := logI_mono b1.1 (hs _ he.1).2 b2.2
  show 0 ≤ centI (fstI (zsM xs m)) (lstI (zsM xs m))
  unfold centI
  omega
theorem far_not (h : drawnM xs) (hm : m ∈ xs) {x : Measure} (hx : x ∈ xs) {l : Int} (hl : spI (zsM xs m) ≤ l) (hf : farB xs l x = true) : (strEq x.bell m.bell && decide (x.part = m.part)) = false := by
  rw [← Bool.not_eq_true]
  intro q
  rw [Bool.and_eq_true, decide_eq_true_eq] at q
  have e1 := strEq_iff.1 q.1
  have e2 := q.2
  have h0 := zs_len hm
  have hs : ∀ z ∈ zsM xs m, fstI (zsM xs m) ≤ z ∧ z ≤ lstI (zsM xs m) := sorted_ends (sortI_le (valF xs m.bell m.part))
  have hb : ∀ z ∈ zsM xs m, 10000 ≤ z ∧ z ≤ 20000000 := (zs_bd h m.bell m.part).2
  have he := ends_mem h0
  have hv : x.value ∈ zsM xs m := by
    have := zs_mem hx
    unfold zsM at this ⊢
    rw [e1, e2] at this
    exact this
  have hmid : midI xs x = medI (zsM xs m) := by
    unfold midI zsM; rw [e1, e2]
  have hd := medI_mem h0
  unfold farB at hf
  rw [decide_eq_true_eq, hmid] at hf
  have a1 := hs _ hv
  have a2 := hs _ hd
  have b1 := hb _ he.1
  have b2 := hb _ he.2
  have c1 := logI_mono (show 10000 ≤ fstI (zsM xs m) by exact b1.1) a1.1 (hb _ hv).2
  have c2 := logI_mono (hb _ hv).1 a1.2 b2.2
  have c3 := logI_mono b1.1 a2.1 (hb _ hd).2
  have c4 := logI_mono (hb _ hd).1 a2.2 b2.2
  have hl' : logI (lstI (zsM xs m)) - logI (fstI (zsM xs m)) ≤ l := hl
  unfold absI centI at hf
  split at hf <;> omega
theorem bells_pos (h : drawnM xs) : bellC xs = 0 ∧ 0 < (bellR xs).length := by
  have hv := drawnM_valid h
  have h1 := h.1
  have e : bellR xs = bellK (bellBytes xs) := if_pos hv
  refine ⟨if_pos hv, ?_⟩
  rw [e]
  obtain ⟨x, hx⟩ : ∃ x, x ∈ bellBytes xs := ⟨_, List.getElem_mem (show 0 < (bellBytes xs).length by unfold bellBytes; rw [List.length_map]; omega)⟩
  exact List.length_pos_of_mem (((bellK_facts (bellBytes xs)).2 x).2 hx)
theorem out_wit (xs : List Measure) (l : Int) : ∀ k, k ≤ xs.length → (outF xs l k).length + (witF xs l k).length = k
  | 0, _ => by simp [outF, witF]
  | k + 1, hk => by
    have ih := out_wit xs l k (by omega)
    cases hf : farB xs l xs[k] with
    | true => rw [outF_yes hk hf, witF_no hk hf, List.length_append, List.length_singleton]; omega
    | false => rw [outF_no hk hf, witF_yes hk hf, List.length_append, List.length_singleton]; omega
theorem outF_at {xs : List Measure} {l : Int} {k : Nat} {c : Int} (h : c ∈ outF xs l k) (hk : k ≤ xs.length) : ∃ (j : Nat) (hj : j < xs.length), c = (j : Int) ∧ farB xs l xs[j] = true := by
  unfold outF at h
  obtain ⟨j, hj, rfl⟩ := List.mem_map.1 h
  rw [List.mem_filter, List.mem_range] at hj
  exact ⟨j, by omega, rfl, by rw [← farAt_eq (by omega)]; exact hj.2⟩
theorem partT_free : ∀ p : Int, 1 ≤ p → p ≤ 5 → (32 : UInt8) ∉ (partT p).data.toList ∧ partN (partT p) 5 = p := by
  intro p h1 h2
  have : p = 1 ∨ p = 2 ∨ p = 3 ∨ p = 4 ∨ p = 5 := by omega
  rcases this with rfl | rfl | rfl | rfl | rfl <;> exact ⟨by decide, by decide⟩
/-- a measurement is read back from its text -/
theorem meas_back (h : measureB m = true) : measR (measT m) = some m := by
  have hb := h
  simp only [measureB, Bool.and_eq_true] at hb
  have hp := inB_true hb.2.1
  have hz : hzB m.value = true := hb.2.2
  have hv := inB_true hz
  obtain ⟨f1, f2⟩ := partT_free m.part hp.1 hp.2
  have e : measT m = joinT 32 [m.bell, partT m.part, hertzT m.value] := by
    rw [joinT_three]
    exact if_pos h
  have hq : partsS 32 (measT m) = [m.bell, partT m.part, hertzT m.value] := by
    rw [e]
    refine parts_joinT 32 _ (by simp) fun x hx => ?_
    have : x = m.bell ∨ x = partT m.part ∨ x = hertzT m.value := by simpa using hx
    rcases this with rfl | rfl | rfl
    · exact nameB_free hb.1
    · exact f1
    · exact hertzT_free (by omega) (by decide) (by decide) (by decide)
  rw [measR_yes hq (hertzR_text hz), f2, if_pos h]
end
end Go.Proofs.YtklgkbiobggbiaaGreatDoor
namespace Go.Proofs.YtklgkbiobggbiaaGreatDoor
open Go.ChangeShapes Go.WideShapes Go.ChangeAt Go.RowKit Go.Deep Go.Joins
set_option linter.unusedVariables false
set_option maxRecDepth 100000
set_option linter.unusedSimpArgs false
theorem measure_cells (x : Measure) : Measure.put x = [.string x.bell, .int .i64 x.part, .int .i64 x.value] := rfl
/-- a measurement that may be drawn -/
def measOkD (m : Measure) : Prop := measureB m = true ∧ m.bell.size ≤ 10
theorem name_two {x : ByteArray} (h : x ∈ [(⟨#[98, 101, 108, 108]⟩ : ByteArray), ⟨#[116, 101, 110, 111, 114]⟩]) : nameB x = true := by
  have : x = ⟨#[98, 101, 108, 108]⟩ ∨ x = ⟨#[116, 101, 110, 111, 114]⟩ := by simpa using h
  rcases this with rfl | rfl <;> decide
theorem meas_drawn {x : ByteArray} {p q : Int} (h : nameB x = true) (h1 : 0 ≤ p ∧ p < 5) (h2 : 0 ≤ q ∧ q < 3000) : measOkD ⟨x, 1 + p, 200000 * (1 + p) + q⟩ := by
  refine ⟨?_, nameB_size h⟩
  unfold measureB
  have b1 : inB (1 + p) 1 5 = true := inB_mk ⟨by omega, by omega⟩
  have b2 : inB (200000 * (1 + p) + q) 10000 20000000 = true := inB_mk ⟨by omega, by omega⟩
  show (nameB x && (inB (1 + p) 1 5 && inB (200000 * (1 + p) + q) 10000 20000000)) = true
  rw [h, b1, b2]; rfl
set_option maxHeartbeats 4000000 in
theorem draw_meas (w : World) (g n : Nat) (h : Src w g n) (hn : n ≤ 1000000) :
    Calls Tryz.prog 32 #[.pointer (some ⟨g, 0, none⟩)] w fun e w' => ∃ m : Measure, e = .returned (.agg #[.string m.bell, .int .i64 m.part, .int .i64 m.value]) ∧ measOkD m ∧ Src w' g (n + 6) ∧ Turn g (g + 1) w w' := by
  have hg := h.lt
  obtain ⟨W1, hW1⟩ : ∃ W1, w.alloc (.cells #[.string ⟨#[]⟩, .int .i64 0, .int .i64 0] 27) = W1 := ⟨_, rfl⟩
  have e1 : W1.heap.size = w.heap.size + 1 := by rw [← hW1]; simp
  obtain ⟨W2, hW2⟩ : ∃ W2, W1.alloc (.cells #[.string ⟨#[98, 101, 108, 108]⟩, .string ⟨#[116, 101, 110, 111, 114]⟩] 9) = W2 := ⟨_, rfl⟩
  have e2 : W2.heap.size = w.heap.size + 2 := by rw [← hW2]; simp [e1]
  have T2 : Turn g (g + 1) w W2 := by rw [← hW2, ← hW1]; exact ((Turn.refl _ _ w).allocR _).allocR _
  have R1 : Own W1 w.heap.size 27 [.string ⟨#[]⟩, .int .i64 0, .int .i64 0] := by rw [← hW1]; exact Own.new w _ _
  have R2 : Own W2 w.heap.size 27 [.string ⟨#[]⟩, .int .i64 0, .int .i64 0] := by rw [← hW2]; exact R1.alloc _
  have S2 : Src W2 g n := by rw [← hW2, ← hW1]; exact (h.below ((Below.refl _ _).alloc (Nat.le_refl _) _)).below ((Below.refl _ _).alloc (Nat.le_refl _) _)
  have L2 : Rd W2.heap.size W2 (.slice (some ⟨W1.heap.size, 0, none⟩) 2 2) 1 2 ([(⟨#[98, 101, 108, 108]⟩ : ByteArray), ⟨#[116, 101, 110, 111, 114]⟩].flatMap putStr) := by
    have o : Own W2 W1.heap.size 9 [.string ⟨#[98, 101, 108, 108]⟩, .string ⟨#[116, 101, 110, 111, 114]⟩] := by rw [← hW2]; exact Own.new W1 _ _
    exact o.rd o.lt (n := 2) rfl (by unfold maxLen; omega) _ (Nat.le_refl _) (by unfold maxLen; omega)
  rw [e1] at L2
  have HX := Lib.hid (src_text W2 g n _ _ S2 (by omega) L2 (by decide) (by decide) (by rintro b off l c e; injection e with e _ _; injection e with e; injection e with e; omega))
  have HR2 := Lib.hid R2
  have HT2 := Lib.hid T2
  clear R1 R2 S2 L2 T2 h
  go_enter Tryz.func32, Tryz.ntmps32
  go_wp2_with fail
  refine HX.out.mono ?_; rintro e w3 ⟨x, rfl, hx, s3, t3⟩
  have HN := Lib.hid (name_two hx)
  have R3 := Lib.hid (HR2.out.turn t3 (.inr (by omega)))
  have T3 := Lib.hid (HT2.out.trans t3)
  have HP := Lib.hid (src_pick w3 g (n + 2) 5 s3 (by omega) (by omega))
  have z3 : W2.heap.size ≤ w3.heap.size := t3.size
  clear hx s3 t3 HX HR2 HT2
  go_wp2_with fail
  refine HP.out.mono ?_; rintro e w4 ⟨p, rfl, p0, _, p1, s4, t4⟩
  have p2 : p < 5 := p1 (by omega)
  have R4 := Lib.hid (R3.out.turn t4 (.inr (by omega)))
  have T4 := Lib.hid (T3.out.trans t4)
  have S4 := Lib.hid s4
  have z4 : w3.heap.size ≤ w4.heap.size := t4.size
  clear s4 t4 p1 R3 T3 HP
  go_wp2_with fail
  have R5 : Hid (Own (w4.alloc (.cells #[.string x, .int .i64 (1 + p), .int .i64 0] 27)) w.heap.size 27 [.string ⟨#[]⟩, .int .i64 0, .int .i64 0]) := Lib.hid (R4.out.alloc _)
  have M5 : Hid (Own (w4.alloc (.cells #[.string x, .int .i64 (1 + p), .int .i64 0] 27)) w4.heap.size 27 [.string x, .int .i64 (1 + p), .int .i64 0]) := Lib.hid (Own.new w4 _ _)
  have S5 : Src (w4.alloc (.cells #[.string x, .int .i64 (1 + p), .int .i64 0] 27)) g (n + 4) := S4.out.below ((Below.refl _ _).alloc (Nat.le_refl _) _)
  have T5 : Hid (Turn g (g + 1) w (w4.alloc (.cells #[.string x, .int .i64 (1 + p), .int .i64 0] 27))) := Lib.hid (T4.out.allocR _)
  have z5 : (w4.alloc (.cells #[.string x, .int .i64 (1 + p), .int .i64 0] 27)).heap.size = w4.heap.size + 1 := by simp
  generalize (w4.alloc (.cells #[.string x, .int .i64 (1 + p), .int .i64 0] 27)) = w5 at *
  obtain ⟨gm, hgm⟩ : ∃ gm, w4.heap.size = gm := ⟨_, rfl⟩
  rw [hgm] at M5 z5 z4 ⊢
  have m1 : w5.cell? ⟨gm, 1, none⟩ = some (.int .i64 (1 + p)) := M5.out.cell 1
  have ml := M5.out.lt
  have HS5 := Lib.hid S5
  clear hgm S5 R4 T4 S4
  go_wp2_with fail
  go_region_held3 (fun w' => w'.cell? ⟨gm, 1, none⟩ = some (.int .i64 (1 + p))) (first | go_keep | (simp [go_sem, HS3, hltx]; done)) (first
    | (go_at_call 31
       refine (src_pick _ g (n + 4) 3000 (HS5.out.below (by (repeat' (first | (with_reducible exact Below.refl _ _) | (with_reducible assumption) | (with_reducible refine below_dn ?_ _) | (with_reducible refine Below.drew ?_) | (with_reducible refine Below.alloc ?_ ?_ _) | (with_reducible refine Below.setCell ?_ ?_ _) | go_size)))) (by omega) (by omega)).mono ?_; rintro e w6 ⟨q, rfl, q0, _, q1, s6, t6⟩
       have TT : Turn g (g + 1) w5 w6 := Turn.trans (Turn.of_below (by (repeat' (first | (with_reducible exact Below.refl _ _) | (with_reducible assumption) | (with_reducible refine below_dn ?_ _) | (with_reducible refine Below.drew ?_) | (with_reducible refine Below.alloc ?_ ?_ _) | (with_reducible refine Below.setCell ?_ ?_ _) | go_size)))) t6
       have HS3 : w6.cell? ⟨gm, 1, none⟩ = some (.int .i64 (1 + p)) := (TT.cell ml (.inr (by omega)) 1).trans m1
       have q2 : q < 3000 := q1 (by omega)
       have R6 := Lib.hid (R5.out.turn TT (.inr (by omega)))
       have M6 := Lib.hid (M5.out.turn TT (.inr (by omega)))
       have T6 := Lib.hid (T5.out.trans TT)
       have S6 := Lib.hid s6
       have x2 : w6.cell? ⟨gm, 2, none⟩ = some (.int .i64 0) := M6.out.cell 2
       have fx2 := M6.out.free 2
       have hltx := M6.out.lt
       clear s6 t6 q1 R5 M5 T5 TT))
  clear HS5 m1 ml HS3
  have x0 : w6.cell? ⟨gm, 0, none⟩ = some (.string x) := M6.out.cell 0
  have x1 : w6.cell? ⟨gm, 1, none⟩ = some (.int .i64 (1 + p)) := M6.out.cell 1
  have r0 : w6.cell? ⟨w.heap.size, 0, none⟩ = some (.string ⟨#[]⟩) := R6.out.cell 0
  have r1 : w6.cell? ⟨w.heap.size, 1, none⟩ = some (.int .i64 0) := R6.out.cell 1
  have r2 : w6.cell? ⟨w.heap.size, 2, none⟩ = some (.int .i64 0) := R6.out.cell 2
  have fr0 := R6.out.free 0
  have fr1 := R6.out.free 1
  have fr2 := R6.out.free 2
  have hltr := R6.out.lt
  have hne1 : ¬ w.heap.size = gm := by omega
  have hne2 : ¬ gm = w.heap.size := by omega
  have HM := Lib.hid (meas_drawn HN.out ⟨p0, p2⟩ ⟨q0, q2⟩)
  go_wp2_with fail
  refine bodyPost_ret (v := .agg #[.string x, .int .i64 (1 + p), .int .i64 (200000 * (1 + p) + q)]) (by simp [results, Tryz.results32, go_sem, x0, x1, x2, r0, r1, r2, hltx, hltr, hne1, hne2]) rfl ?_
  refine ⟨⟨x, 1 + p, 200000 * (1 + p) + q⟩, rfl, HM.out, ?_, ?_⟩
  · repeat (refine Src.set ?_ (by omega) _ _)
    exact S6.out
  · repeat (refine Turn.setNew ?_ (by omega) _ _)
    exact T6.out
theorem meas_snoc (xs : List Measure) (a : Measure) : (xs ++ [a]).flatMap Measure.put = xs.flatMap Measure.put ++ [.string a.bell, .int .i64 a.part, .int .i64 a.value] := by rw [List.flatMap_append]; rfl
set_option maxHeartbeats 4000000 in
theorem draw_measures (w : World) (v : Value) (cs : List UInt8) (h : Rd w.heap.size w v 1 cs.length (cs.flatMap putB)) (hl : cs.length ≤ maxLen) :
    Calls Tryz.prog 6 #[v] w fun e w' => ∃ (r : Value) (xs : List Measure), e = .returned r ∧ drawnM xs ∧ w'.ownsRow w.heap.size 27 3 r xs.length (xs.flatMap Measure.put) ∧ Below w.heap.size w w' := by
  have HF := Lib.hid (src_from w v cs h hl)
  obtain ⟨ao, cap, rfl⟩ := h.form
  obtain ⟨i0, hi, hz0, hz1, hz2⟩ := info_parts Measure_info
  clear h
  go_enter Tryz.func6, Tryz.ntmps6
  go_wp2_with fail
  refine HF.out.mono ?_; rintro e w1 ⟨rfl, s1, b1⟩
  have hg1 : w.heap.size < w1.heap.size := s1.lt
  have HB1 := Lib.hid b1
  have HS1 := Lib.hid (s1.below (w' := w1.alloc (.cells #[] 27)) ((Below.refl _ _).alloc (Nat.le_refl _) _))
  clear s1 b1 HF
  go_wp2_with fail
  have HO1 : Hid ((w1.alloc (.cells #[] 27)).ownsRow w1.heap.size 27 3 (.slice (some ⟨w1.heap.size, 0, none⟩) 0 0) 0 []) := Lib.hid (own_empty w1 w1.heap.size _ 3 (Nat.le_refl _))
  have HB2 : Hid (Below w.heap.size w (w1.alloc (.cells #[] 27))) := Lib.hid (HB1.out.alloc HB1.out.size _)
  have z2 : w1.heap.size < (w1.alloc (.cells #[] 27)).heap.size := by simp
  generalize (w1.alloc (.cells #[] 27)) = w2 at *
  obtain ⟨g1, hg1e⟩ : ∃ g1, w1.heap.size = g1 := ⟨_, rfl⟩
  rw [hg1e] at hg1 HO1 z2 ⊢
  have HP := Lib.hid (src_pick w2 w.heap.size 0 10 HS1.out (by omega) (by omega))
  clear HS1 HB1 hg1e
  refine HP.out.mono ?_; rintro e w3 ⟨p, rfl, p0, _, p1, s3, t3⟩
  obtain ⟨K, rfl⟩ : ∃ K : Nat, p = (K : Int) := ⟨p.toNat, by omega⟩
  have hK : K < 10 := by have := p1 (by omega); omega
  have HO3 := Lib.hid (own_turn HO1.out t3 (by omega))
  have HS3 := Lib.hid s3
  have HB3 := Lib.hid (HB2.out.trans (t3.below (B := w.heap.size) (Nat.le_refl _) HB2.out.size))
  have z3 : w2.heap.size ≤ w3.heap.size := t3.size
  clear s3 t3 p1 p0 HP HO1 HB2
  go_wp2_with fail
  go_loopw [4, 5] (fun r k wr => ∃ (j : Nat) (xs : List Measure), k = .int .i64 j ∧ j + xs.length = K + 1 ∧ (∀ x ∈ xs, measOkD x) ∧ wr.ownsRow g1 27 3 r xs.length (xs.flatMap Measure.put) ∧ Src wr w.heap.size (2 + 6 * xs.length) ∧ Below w.heap.size w wr ∧ g1 < wr.heap.size) (fun _ k _ => (intOf k).toNat)
  case atStart => exact ⟨K + 1, [], by go_num, by simp, by simp, HO3.out, HS3.out, HB3.out, by omega⟩
  case round =>
    clear HO3 HS3 HB3 z3
    obtain ⟨j, xs, rfl, hj, hall, hown, hsr, hb, hzr⟩ := hrel
    have HA := Lib.hid hall
    have HO := Lib.hid hown
    have HB := Lib.hid hb
    have HJ := Lib.hid hj
    have hj10 : j ≤ 10 := by omega
    have hxl0 : xs.length ≤ K + 1 := by omega
    have hxl : xs.length ≤ 10 := by omega
    have HD := Lib.hid (draw_meas wr w.heap.size (2 + 6 * xs.length) hsr (by omega))
    obtain ⟨ro, rx, er0⟩ := (own_rd hown).form
    subst er0
    clear hall hown hb hsr hj
    by_cases h0 : 0 < j
    · have t0 : decide (0 < j) = true := decide_eq_true h0
      go_wp2_with fail
      refine HD.out.mono ?_; rintro e w4 ⟨m, rfl, hm, s4, t4⟩
      have HM := Lib.hid hm
      have HS4 := Lib.hid s4
      have HO4 := Lib.hid (own_turn HO.out t4 (by omega))
      have HB4 := Lib.hid (HB.out.trans (t4.below (B := w.heap.size) (Nat.le_refl _) HB.out.size))
      have z4 : g1 ≤ w4.heap.size := by have := t4.size; omega
      clear hm s4 t4 HO HB
      go_wp2_with (at_builtin; refine app_el rfl _ _ 24 27 i0 (.agg #[.string ByteArray.empty, .int .i64 0, .int .i64 0]) 3 32 Tryz.underlying24 hi hz0 hz1 hz2 (by rfl) (by decide) rfl w4 g1 _ xs.length (xs.flatMap Measure.put) (by rfl) HO4.out [.string m.bell, .int .i64 m.part, .int .i64 m.value] rfl (by intro u hu; simp at hu; rcases hu with rfl | rfl | rfl <;> rfl) (by rfl) (by omega) (by decide) z4 ?_; intro g gc w5 hown5 hB5 hz5; have HB5 := Lib.hid (hB5 w4 (Below.refl _ _)); have HO5 := Lib.hid hown5; clear hown5 hB5)
      go_roundw
      case rel => exact ⟨j - 1, xs ++ [m], by go_num, by rw [List.length_append, List.length_singleton]; have := HJ.out; omega, fun x hx => by
        rcases List.mem_append.1 hx with hx | hx
        · exact HA.out x hx
        · obtain rfl : x = m := by simpa using hx
          exact HM.out, by rw [meas_snoc, List.length_append, List.length_singleton]; exact HO5.out, by
        have := HS4.out.belowB HB5.out hg1
        rw [List.length_append, List.length_singleton]
        exact this.mono (by omega), HB4.out.trans (HB5.out.mono (by omega)), by omega⟩
      case measure => simp [intOf, wrap64]; omega
    · obtain rfl : j = 0 := by omega
      have t0 : decide ((0 : Nat) < 0) = false := by decide
      have HJ2 : Hid (xs.length = K + 1) := Lib.hid (by have := HJ.out; omega)
      go_wp2_with fail
      go_ret
      exact ⟨_, xs, rfl, ⟨⟨by have := HJ2.out; omega, hxl⟩, fun x hx => HA.out x hx⟩, own_base HO.out (by omega), HB.out⟩
end Go.Proofs.YtklgkbiobggbiaaGreatDoor
namespace Go.Proofs.YtklgkbiobggbiaaGreatDoor
open Go.ChangeShapes Go.WideShapes Go.ChangeAt Go.RowKit Go.Deep Go.Joins
set_option linter.unusedVariables false
set_option maxRecDepth 100000
set_option linter.unusedSimpArgs false
theorem head_at (s : ByteArray) (k : Nat) (h : k < s.size) : (s.data.toList.drop k).head? = some s[k] := by
  rw [List.head?_drop, List.getElem?_eq_getElem (by simpa using h)]; rfl
theorem drop_at (s : ByteArray) (a k : Nat) (h : a + k < s.size) : (s.data.toList.drop a)[k]? = some s[a + k] := by
  rw [List.getElem?_drop, List.getElem?_eq_getElem (by simpa using h)]; rfl
theorem len_drop (s : ByteArray) (a : Nat) : (s.data.toList.drop a).length = s.size - a := by
  rw [List.length_drop]; simp
end Go.Proofs.YtklgkbiobggbiaaGreatDoor
namespace Go.Proofs.YtklgkbiobggbiaaGreatDoor
open Go.ChangeShapes Go.WideShapes Go.ChangeAt Go.RowKit Go.Deep Go.Joins
set_option linter.unusedVariables false
set_option maxRecDepth 100000
set_option linter.unusedSimpArgs false
def Tryz.layTrim_ren : Go.Shelf.Ren := ⟨fun | 101 => 115 | 208 => 155 | 206 => 194 | n => n, fun | 9 => 9 | 4 => 4 | 3 => 3 | n => n, fun | n => n⟩
theorem Tryz.layTrim : Go.Proofs.Lays.n101 Tryz.prog Tryz.layTrim_ren := {
  mixed := by kernel_rfl
  f101 := Tryz.func115.trans (congrArg some (by kernel_rfl))
  f206 := Tryz.func194.trans (congrArg some (by kernel_rfl))
  f208 := Tryz.func155.trans (congrArg some (by kernel_rfl))
  t3 := Tryz.underlying3
  a3 := Tryz.isAgg3
  z3 := Tryz.sizeOf3
  v3 := Tryz.zeroValue3
  t4 := Tryz.underlying4
  a4 := Tryz.isAgg4
  z4 := Tryz.sizeOf4
  v4 := Tryz.zeroValue4
  t9 := Tryz.underlying9
  a9 := Tryz.isAgg9
  z9 := Tryz.sizeOf9
  v9 := Tryz.zeroValue9 }
def Tryz.layPI_ren : Go.Shelf.Ren := ⟨fun | 174 => 116 | 247 => 156 | 245 => 157 | 287 => 195 | 279 => 196 | 280 => 197 | 281 => 198 | 282 => 199 | 321 => 220 | 322 => 221 | 316 => 222 | 171 => 224 | 205 => 223 | 243 => 233 | 246 => 160 | 283 => 202 | 284 => 203 | 285 => 204 | 286 => 205 | 129 => 137 | 317 => 225 | 318 => 226 | 319 => 227 | 320 => 228 | 337 => 234 | 338 => 235 | n => n, fun | 9 => 9 | 3 => 3 | 2 => 2 | 75 => 136 | 85 => 137 | 4 => 4 | 167 => 196 | 5 => 5 | 53 => 96 | 175 => 197 | 46 => 106 | 168 => 199 | 37 => 22 | 0 => 0 | 210 => 223 | 21 => 21 | 127 => 169 | 145 => 239 | 143 => 237 | 171 => 206 | 173 => 208 | 212 => 226 | 51 => 159 | 20 => 20 | 213 => 227 | 232 => 242 | 233 => 243 | 80 => 145 | n => n, fun | 15 => 1 | 16 => 2 | 17 => 3 | 18 => 6 | 19 => 7 | n => n⟩
theorem Tryz.layPI : Go.Proofs.LaysC.n174 Tryz.prog Tryz.layPI_ren := {
  mixed := by kernel_rfl
  f129 := Tryz.func137.trans (congrArg some (by kernel_rfl))
  f171 := Tryz.func224.trans (congrArg some (by kernel_rfl))
  f174 := Tryz.func116.trans (congrArg some (by kernel_rfl))
  f205 := Tryz.func223.trans (congrArg some (by kernel_rfl))
  f243 := Tryz.func233.trans (congrArg some (by kernel_rfl))
  f245 := Tryz.func157.trans (congrArg some (by kernel_rfl))
  f246 := Tryz.func160.trans (congrArg some (by kernel_rfl))
  f247 := Tryz.func156.trans (congrArg some (by kernel_rfl))
  f279 := Tryz.func196.trans (congrArg some (by kernel_rfl))
  f280 := Tryz.func197.trans (congrArg some (by kernel_rfl))
  f281 := Tryz.func198.trans (congrArg some (by kernel_rfl))
  f282 := Tryz.func199.trans (congrArg some (by kernel_rfl))
  f283 := Tryz.func202.trans (congrArg some (by kernel_rfl))
  f284 := Tryz.func203.trans (congrArg some (by kernel_rfl))
  f285 := Tryz.func204.trans (congrArg some (by kernel_rfl))
  f286 := Tryz.func205.trans (congrArg some (by kernel_rfl))
  f287 := Tryz.func195.trans (congrArg some (by kernel_rfl))
  f316 := Tryz.func222.trans (congrArg some (by kernel_rfl))
  f317 := Tryz.func225.trans (congrArg some (by kernel_rfl))
  f318 := Tryz.func226.trans (congrArg some (by kernel_rfl))
  f319 := Tryz.func227.trans (congrArg some (by kernel_rfl))
  f320 := Tryz.func228.trans (congrArg some (by kernel_rfl))
  f321 := Tryz.func220.trans (congrArg some (by kernel_rfl))
  f322 := Tryz.func221.trans (congrArg some (by kernel_rfl))
  f337 := Tryz.func234.trans (congrArg some (by kernel_rfl))
  f338 := Tryz.func235.trans (congrArg some (by kernel_rfl))
  t0 := Tryz.underlying0
  a0 := Tryz.isAgg0
  z0 := Tryz.sizeOf0
  v0 := Tryz.zeroValue0
  t2 := Tryz.underlying2
  a2 := Tryz.isAgg2
  z2 := Tryz.sizeOf2
  v2 := Tryz.zeroValue2
  t3 := Tryz.underlying3
  a3 := Tryz.isAgg3
  z3 := Tryz.sizeOf3
  v3 := Tryz.zeroValue3
  t4 := Tryz.underlying4
  a4 := Tryz.isAgg4
  z4 := Tryz.sizeOf4
  v4 := Tryz.zeroValue4
  t5 := Tryz.underlying5
  a5 := Tryz.isAgg5
  z5 := Tryz.sizeOf5
  v5 := Tryz.zeroValue5
  t9 := Tryz.underlying9
  a9 := Tryz.isAgg9
  z9 := Tryz.sizeOf9
  v9 := Tryz.zeroValue9
  t20 := Tryz.underlying20
  a20 := Tryz.isAgg20
  z20 := Tryz.sizeOf20
  v20 := Tryz.zeroValue20
  t21 := Tryz.underlying21
  a21 := Tryz.isAgg21
  z21 := Tryz.sizeOf21
  v21 := Tryz.zeroValue21
  t37 := Tryz.underlying22
  a37 := Tryz.isAgg22
  z37 := Tryz.sizeOf22
  v37 := Tryz.zeroValue22
  t46 := Tryz.underlying106
  a46 := Tryz.isAgg106
  z46 := Tryz.sizeOf106
  v46 := Tryz.zeroValue106
  t51 := Tryz.underlying159
  a51 := Tryz.isAgg159
  z51 := Tryz.sizeOf159
  v51 := Tryz.zeroValue159
  t53 := Tryz.underlying96
  a53 := Tryz.isAgg96
  z53 := Tryz.sizeOf96
  v53 := Tryz.zeroValue96
  t75 := Tryz.underlying136
  a75 := Tryz.isAgg136
  z75 := Tryz.sizeOf136
  v75 := Tryz.zeroValue136
  t85 := Tryz.underlying137
  a85 := Tryz.isAgg137
  z85 := Tryz.sizeOf137
  v85 := Tryz.zeroValue137
  t127 := Tryz.underlying169
  a127 := Tryz.isAgg169
  z127 := Tryz.sizeOf169
  v127 := Tryz.zeroValue169
  t143 := Tryz.underlying237
  a143 := Tryz.isAgg237
  z143 := Tryz.sizeOf237
  v143 := Tryz.zeroValue237
  t145 := Tryz.underlying239
  a145 := Tryz.isAgg239
  z145 := Tryz.sizeOf239
  v145 := Tryz.zeroValue239
  t167 := Tryz.underlying196
  a167 := Tryz.isAgg196
  z167 := Tryz.sizeOf196
  v167 := Tryz.zeroValue196
  t168 := Tryz.underlying199
  a168 := Tryz.isAgg199
  z168 := Tryz.sizeOf199
  v168 := Tryz.zeroValue199
  t171 := Tryz.underlying206
  a171 := Tryz.isAgg206
  z171 := Tryz.sizeOf206
  v171 := Tryz.zeroValue206
  t173 := Tryz.underlying208
  a173 := Tryz.isAgg208
  z173 := Tryz.sizeOf208
  v173 := Tryz.zeroValue208
  t175 := Tryz.underlying197
  a175 := Tryz.isAgg197
  z175 := Tryz.sizeOf197
  v175 := Tryz.zeroValue197
  t210 := Tryz.underlying223
  a210 := Tryz.isAgg223
  z210 := Tryz.sizeOf223
  v210 := Tryz.zeroValue223
  t212 := Tryz.underlying226
  a212 := Tryz.isAgg226
  z212 := Tryz.sizeOf226
  v212 := Tryz.zeroValue226
  t213 := Tryz.underlying227
  a213 := Tryz.isAgg227
  z213 := Tryz.sizeOf227
  t232 := Tryz.underlying242
  a232 := Tryz.isAgg242
  z232 := Tryz.sizeOf242
  v232 := Tryz.zeroValue242
  t233 := Tryz.underlying243
  a233 := Tryz.isAgg243
  z233 := Tryz.sizeOf243
  v233 := Tryz.zeroValue243
  g15 := by kernel_rfl
  g16 := by kernel_rfl
  g17 := by kernel_rfl
  g18 := by kernel_rfl
  g19 := by kernel_rfl
  t80 := Tryz.underlying145
  a80 := Tryz.isAgg145
  z80 := Tryz.sizeOf145
  v80 := Tryz.zeroValue145
  i0 := by kernel_rfl
  i2 := by kernel_rfl
  i3 := by kernel_rfl
  i4 := by kernel_rfl
  i5 := by kernel_rfl
  i9 := by kernel_rfl
  i20 := by kernel_rfl
  i21 := by kernel_rfl
  i37 := by kernel_rfl
  i46 := by kernel_rfl
  i51 := by kernel_rfl
  i53 := by kernel_rfl
  i75 := by kernel_rfl
  i80 := by kernel_rfl
  i85 := by kernel_rfl
  i127 := by kernel_rfl
  i143 := by kernel_rfl
  i145 := by kernel_rfl
  i167 := by kernel_rfl
  i168 := by kernel_rfl
  i171 := by kernel_rfl
  i173 := by kernel_rfl
  i175 := by kernel_rfl
  i210 := by kernel_rfl
  i212 := by kernel_rfl
  i232 := by kernel_rfl
  i233 := by kernel_rfl
  m15 := by kernel_rfl
  m16 := by kernel_rfl
  m17 := by kernel_rfl
  m18 := by kernel_rfl
  m19 := by kernel_rfl
  c0 := by kernel_rfl
  c2 := by kernel_rfl
  c3 := by kernel_rfl
  c4 := by kernel_rfl
  c5 := by kernel_rfl
  c9 := by kernel_rfl
  c20 := by kernel_rfl
  c21 := by kernel_rfl
  c37 := by kernel_rfl
  c46 := by kernel_rfl
  c51 := by kernel_rfl
  c53 := by kernel_rfl
  c75 := by kernel_rfl
  c80 := by kernel_rfl
  c85 := by kernel_rfl
  c127 := by kernel_rfl
  c143 := by kernel_rfl
  c145 := by kernel_rfl
  c167 := by kernel_rfl
  c168 := by kernel_rfl
  c171 := by kernel_rfl
  c173 := by kernel_rfl
  c175 := by kernel_rfl
  c210 := by kernel_rfl
  c212 := by kernel_rfl
  c213 := by kernel_rfl
  c232 := by kernel_rfl
  c233 := by kernel_rfl }
/-- the variable strconv.ErrSyntax holds an error -/
def ErrS (w : World) : Prop := ∃ ev, w.cell? ⟨1, 0, none⟩ = some ev ∧ (ev = .nilIface ∨ ∃ te pe, ev = .iface te pe)
theorem ErrS.below {w w' : World} (h : ErrS w) (b : Below w.heap.size w w') : ErrS w' := by
  obtain ⟨ev, h1, h2⟩ := h
  exact ⟨ev, (b.cell (p := ⟨_, 0, none⟩) (Lib.lt_of_cell h1)).trans h1, h2⟩
theorem text_eq {a b : ByteArray} (h : a = b) : (a.toList == b.toList) = true := by rw [h]; simp
theorem text_ne {a b : ByteArray} (h : a ≠ b) : (a.toList == b.toList) = false := by
  rw [beq_eq_false_iff_ne, ByteArray.toList_eq, ByteArray.toList_eq]
  intro q
  exact h (bytes_inj q)
set_option maxHeartbeats 4000000 in
theorem impl_ReadDecimal (s : ByteArray) (w : World) (hs : s.size ≤ 2147483647) (hp : Pow10 w) (he : ErrS w) :
    Calls Tryz.prog 66 #[.string s] w fun e w' => e = .returned (.tuple #[.int .i64 (numV s), .bool (numS s).isSome]) ∧ Below w.heap.size w w' := by
  have hTr := Lib.hid (Any.strings_TrimPrefix Tryz.layTrim s ⟨#[45]⟩ w)
  obtain ⟨D, hD, hDs⟩ : ∃ D : ByteArray, (⟨(Lib.trimPrefix s.data.toList (⟨#[45]⟩ : ByteArray).data.toList).toArray⟩ : ByteArray) = D ∧ D.size = s.size - atN s := by
    refine ⟨_, rfl, ?_⟩
    have e1 : (⟨#[45]⟩ : ByteArray).data.toList = [45] := rfl
    rw [e1, trim_eq]
    show Array.size _ = _
    simp
  rw [hD] at hTr
  clear hD
  have HP := Lib.hid hp; clear hp
  have HE := Lib.hid he; clear he
  by_cases h1 : D.size < 1
  · have e := Lib.hid (num_none (numS_bad (s := s) (.inl (by omega))))
    have t1 : decide ((D.size : Int) < 1) = true := decide_eq_true (by omega)
    go_enter Tryz.func66, Tryz.ntmps66
    go_wp2_with (go_at_call 115; refine hTr.out.mono ?_; rintro e w' ⟨rfl, rfl⟩)
    go_ret2
    exact ⟨by rw [e.out.1, e.out.2]; rfl, Below.refl _ _⟩
  have t1 : decide ((D.size : Int) < 1) = false := decide_eq_false (by omega)
  by_cases h2 : 18 < D.size
  · have e := Lib.hid (num_none (numS_bad (s := s) (.inr (.inl (by omega)))))
    have t2 : decide ((18 : Int) < (D.size : Int)) = true := decide_eq_true (by omega)
    go_enter Tryz.func66, Tryz.ntmps66
    go_wp2_with (go_at_call 115; refine hTr.out.mono ?_; rintro e w' ⟨rfl, rfl⟩)
    go_ret2
    exact ⟨by rw [e.out.1, e.out.2]; rfl, Below.refl _ _⟩
  have t2 : decide ((18 : Int) < (D.size : Int)) = false := decide_eq_false (by omega)
  rcases parse_num (s := s) (by omega) (by omega) with ⟨v, h3, hb, hv⟩ | ⟨h3, h4⟩
  · have hPI := Lib.hid (Any.strconv_ParseInt_10_at64_ok Tryz.layPI s (by omega) v h3 w)
    clear h3
    rcases hv with ⟨h4, h5⟩ | ⟨h4, h5⟩
    · have t3 := text_eq h4
      have e := Lib.hid (num_some h5)
      clear h4 h5
      go_enter Tryz.func66, Tryz.ntmps66
      go_wp2_with (go_at_call 115; refine hTr.out.mono ?_; rintro e w' ⟨rfl, rfl⟩)
      refine hPI.out.mono ?_; rintro e w1 ⟨rfl, hw⟩
      have HB1 : Hid (Below w'.heap.size w' w1) := Lib.hid (by rcases hw with rfl | ⟨t, rfl⟩; exact Below.refl _ _; exact Lib.bytesWorld_below _ _ _)
      clear hw
      go_wp2_with fail
      refine (impl_Decimal v _ (by omega) (by omega) (HP.out.below HB1.out)).mono ?_; rintro e w2 ⟨rfl, b2⟩
      have HB2 := Lib.hid (bnext HB1.out b2); clear b2
      go_wp2_with fail
      go_ret2
      exact ⟨by rw [e.out.1, e.out.2]; rfl, HB2.out⟩
    · have t3 := text_ne h4
      have e := Lib.hid (num_none h5)
      clear h4 h5
      go_enter Tryz.func66, Tryz.ntmps66
      go_wp2_with (go_at_call 115; refine hTr.out.mono ?_; rintro e w' ⟨rfl, rfl⟩)
      refine hPI.out.mono ?_; rintro e w1 ⟨rfl, hw⟩
      have HB1 : Hid (Below w'.heap.size w' w1) := Lib.hid (by rcases hw with rfl | ⟨t, rfl⟩; exact Below.refl _ _; exact Lib.bytesWorld_below _ _ _)
      clear hw
      go_wp2_with fail
      refine (impl_Decimal v _ (by omega) (by omega) (HP.out.below HB1.out)).mono ?_; rintro e w2 ⟨rfl, b2⟩
      have HB2 := Lib.hid (bnext HB1.out b2); clear b2
      go_wp2_with fail
      go_ret2
      exact ⟨by rw [e.out.1, e.out.2]; rfl, HB2.out⟩
  · obtain ⟨ev, hv1, hv2⟩ := HE.out
    have hPI := Lib.hid (Any.strconv_ParseInt_10_at64_syntax Tryz.layPI s (by omega) h3 ev w hv1 hv2)
    have e := Lib.hid (num_none h4)
    clear h3 h4 hv1 hv2
    go_enter Tryz.func66, Tryz.ntmps66
    go_wp2_with (go_at_call 115; refine hTr.out.mono ?_; rintro e w' ⟨rfl, rfl⟩)
    refine hPI.out.mono ?_; rintro e w1 ⟨N, rfl, _, _, b1⟩
    have HB1 := Lib.hid b1; clear b1
    go_wp2_with fail
    go_ret2
    exact ⟨by rw [e.out.1, e.out.2]; rfl, HB1.out⟩
end Go.Proofs.YtklgkbiobggbiaaGreatDoor
namespace Go.Proofs.YtklgkbiobggbiaaGreatDoor
open Go.ChangeShapes Go.WideShapes Go.ChangeAt Go.RowKit Go.Deep Go.Joins
set_option linter.unusedVariables false
set_option maxRecDepth 100000
set_option linter.unusedSimpArgs false
theorem stp_el {P : Program} {o : Oper} {a : Act} {K : Act → World → Prop} {Q : Exit → Act → World → Prop} {w1 : World} (s x : Operand) (T E : TypeId) (i : TypeInfo) (z : Value) (sz bytes : Nat)
    (hT : P.underlying T = some (.slice E)) (hi : P.info? E = some i) (hz : i.zero = some z) (h1 : i.size = sz) (h2 : i.bytes = bytes) (hzs : z.cells.size = sz) (hsz : 0 < sz)
    (ho : o.op = .call { callee := .builtin .append, args := #[s, x], argTypes := #[T, T] }) (w0 : World) (base : Nat) (v : Value) (n : Nat) (L : List Value) (hs : a.eval s = v) (hown : w0.ownsRow base E sz v n L)
    (cs : List Value) (hcs : cs.length = sz) (hone : ∀ u ∈ cs, u.oneCell' = true) (hx : a.eval x = .slice (some ⟨w0.heap.size, 0, none⟩) 1 1) (hn : n + 1 ≤ 2097152) (hby : bytes ≤ 64) (hbase : base ≤ w0.heap.size) (hw : w1 = w0.alloc (.cells cs.toArray E))
    (h : ∀ g cap w', w'.ownsRow base E sz (.slice (some ⟨g, 0, none⟩) (n + 1) cap) (n + 1) (L ++ cs) → (∀ W, Below base W w0 → Below base W w') → (∀ b E' L', Own w0 b E' L' → (∀ g', v.ownBlock = some g' → g' ≠ b) → Own w' b E' L') → K (a.put o.dst (.slice (some ⟨g, 0, none⟩) (n + 1) cap)) w') :
    Oper.wp P o a w1 K Q := by
  subst hw
  have hb : (n + 1) * bytes ≤ 140737488355328 := by
    have := Nat.mul_le_mul hn hby
    omega
  refine wp_append_lies _ s x T ho base E i z sz bytes hT hi hz h1 h2 hzs hsz v n L hs (hown.alloc _) ⟨w0.heap.size, 0, none⟩ 1 1 cs hx (by omega) (World.news_of_block (Own.new w0 E cs)) hone (by omega) (by unfold maxLen; omega) hb (by simp; omega) _ rfl ?_
  intro g cap w' hown' hgrow _ _
  refine h g cap w' hown' (fun W hW => ?_) (fun b E' L' hO hne => ?_)
  · exact grown_below (hW.alloc hbase _) (hown.alloc _) (by simp; omega) hgrow
  · have hO2 : Own (w0.alloc (.cells cs.toArray E)) b E' L' := hO.alloc _
    exact (hgrow.block b hO2.lt (fun e => hne b e.symm rfl)).trans hO2
end Go.Proofs.YtklgkbiobggbiaaGreatDoor
namespace Go.Proofs.YtklgkbiobggbiaaGreatDoor
open Go.ChangeShapes Go.WideShapes Go.ChangeAt Go.RowKit Go.Deep Go.Joins
set_option linter.unusedVariables false
set_option maxRecDepth 100000
set_option linter.unusedSimpArgs false
theorem Spot_len (xs : List Spot) : (xs.flatMap Spot.put).length = xs.length * 2 := flat_len xs (fun _ _ => rfl)
theorem Spot_get0 (xs : List Spot) (k : Nat) (h : k < xs.length) : (xs.flatMap Spot.put)[k * 2 + 0]? = some (.int .i64 xs[k].angle) := by
  rw [flat_get (f := Spot.put) (s := 2) xs (fun _ _ => rfl) (j := 0) (by omega) k, List.getElem?_eq_getElem h]
  rfl
theorem Spot_get1 (xs : List Spot) (k : Nat) (h : k < xs.length) : (xs.flatMap Spot.put)[k * 2 + 1]? = some (.int .i64 xs[k].weight) := by
  rw [flat_get (f := Spot.put) (s := 2) xs (fun _ _ => rfl) (j := 1) (by omega) k, List.getElem?_eq_getElem h]
  rfl
end Go.Proofs.YtklgkbiobggbiaaGreatDoor
namespace Go.Proofs.YtklgkbiobggbiaaGreatDoor
open Go.ChangeShapes Go.WideShapes Go.ChangeAt Go.RowKit Go.Deep Go.Joins
set_option linter.unusedVariables false
set_option maxRecDepth 100000
set_option linter.unusedSimpArgs false
def weightB (n : Int) : Bool := (n != 0) && inB n (-1000) 1000
def spotB (x : Spot) : Bool := inB x.angle 0 359 && weightB x.weight
end Go.Proofs.YtklgkbiobggbiaaGreatDoor
namespace Go.Proofs.YtklgkbiobggbiaaGreatDoor
open Go.ChangeShapes Go.WideShapes Go.ChangeAt Go.RowKit Go.Deep Go.Joins
set_option linter.unusedVariables false
set_option maxRecDepth 100000
set_option linter.unusedSimpArgs false
def ltKSpot (y x : Spot) : Bool := decide (y.angle < x.angle)
def validSpotS (xs : List Spot) : Bool := allK (stepB spotB ltKSpot xs) xs.length && decide (xs.length ≤ 16)

theorem ltKSpot_spec_f {y x : Spot} (h : ltKSpot y x = false) : decide (x.angle ≤ y.angle) = true := by
  simp [ltKSpot] at h ⊢; omega
theorem ltKSpot_spec_t {y x : Spot} (h : ltKSpot y x = true) : decide (x.angle ≤ y.angle) = false := by
  simp [ltKSpot] at h ⊢; omega
end Go.Proofs.YtklgkbiobggbiaaGreatDoor
namespace Go.Proofs.YtklgkbiobggbiaaGreatDoor
open Go.ChangeShapes Go.WideShapes Go.ChangeAt Go.RowKit Go.Deep Go.Joins
set_option linter.unusedVariables false
set_option maxRecDepth 100000
set_option linter.unusedSimpArgs false
/-- one element, the new spot s, what is out so far and whether s is in -/
def stepA (s : Spot) (o : List Spot) (d : Bool) (x : Spot) : Option (List Spot × Bool) :=
  let o1 := if !d && decide (s.angle < x.angle) then o ++ [s] else o
  let d1 := d || decide (s.angle < x.angle)
  if x.angle = s.angle then
    if x.weight + s.weight = 0 then some (o1, true)
    else if weightB (x.weight + s.weight) = true then some (o1 ++ [⟨x.angle, x.weight + s.weight⟩], true) else none
  else some (o1 ++ [x], d1)
def runA (s : Spot) (xs : List Spot) : Nat → Option (List Spot × Bool)
  | 0 => some ([], false)
  | k + 1 => match runA s xs k, xs[k]? with
    | some st, some x => stepA s st.1 st.2 x
    | r, _ => r
def endA (s : Spot) (r : Option (List Spot × Bool)) : List Spot × Int := match r with
  | none => ([], 6)
  | some (o, d) => if 16 < (if d then o else o ++ [s]).length then ([], 5) else (if d then o else o ++ [s], 0)
def addL (s : Spot) (xs : List Spot) : List Spot × Int := endA s (runA s xs xs.length)
theorem runA_succ {s : Spot} {xs : List Spot} {k : Nat} (h : k < xs.length) {st : List Spot × Bool} (hr : runA s xs k = some st) : runA s xs (k + 1) = stepA s st.1 st.2 xs[k] := by
  show (match runA s xs k, xs[k]? with
    | some st, some x => stepA s st.1 st.2 x
    | r, _ => r) = _
  rw [hr, List.getElem?_eq_getElem h]
theorem runA_none {s : Spot} {xs : List Spot} {k : Nat} (hr : runA s xs k = none) : ∀ m, runA s xs (k + m) = none
  | 0 => hr
  | m + 1 => by
    show (match runA s xs (k + m), xs[k + m]? with
      | some st, some x => stepA s st.1 st.2 x
      | r, _ => r) = none
    rw [runA_none hr m]
theorem addL_bad {s : Spot} {xs : List Spot} {k : Nat} (h : k < xs.length) (hr : runA s xs (k + 1) = none) : addL s xs = ([], 6) := by
  unfold addL
  obtain ⟨m, hm⟩ : ∃ m, xs.length = k + 1 + m := ⟨xs.length - (k + 1), by omega⟩
  rw [hm, runA_none hr m]; rfl
theorem stepA_len {s : Spot} {o : List Spot} {d : Bool} {x : Spot} {st : List Spot × Bool} (h : stepA s o d x = some st) : st.1.length ≤ o.length + 2 := by
  unfold stepA at h
  simp only at h
  have h1 : (if (!d && decide (s.angle < x.angle)) = true then o ++ [s] else o).length ≤ o.length + 1 := by split <;> simp
  generalize (if (!d && decide (s.angle < x.angle)) = true then o ++ [s] else o) = o1 at *
  split at h
  · split at h
    · cases h; show o1.length ≤ _; omega
    · split at h
      · cases h; show (o1 ++ [_]).length ≤ _; rw [List.length_append]; simp; omega
      · cases h
  · cases h; show (o1 ++ [_]).length ≤ _; rw [List.length_append]; simp; omega
theorem runA_len {s : Spot} {xs : List Spot} : ∀ {k : Nat} {st : List Spot × Bool}, k ≤ xs.length → runA s xs k = some st → st.1.length ≤ 2 * k
  | 0, st, _, h => by cases h; simp
  | k + 1, st, hk, h => by
    cases hr : runA s xs k with
    | none => have := runA_none hr 1; rw [h] at this; cases this
    | some st0 =>
      rw [runA_succ (by omega) hr] at h
      have h1 := runA_len (by omega) hr
      have h2 := stepA_len h
      omega
theorem spot_snoc (xs : List Spot) (a : Spot) : (xs ++ [a]).flatMap Spot.put = xs.flatMap Spot.put ++ [.int .i64 a.angle, .int .i64 a.weight] := by rw [List.flatMap_append]; rfl

/-- 'append(out, x)', x in a block of its own; what is owned beside stays -/
theorem app_elK {P : Program} {ops : Array Oper} {rest : List Oper} {o : Oper} {a : Act} {Q : Exit → Act → World → Prop} {w1 : World} (hgd : o.guard = none) (s x : Operand) (T E : TypeId) (i : TypeInfo) (z : Value) (sz bytes : Nat)
    (hT : P.underlying T = some (.slice E)) (hi : P.info? E = some i) (hz : i.zero = some z) (h1 : i.size = sz) (h2 : i.bytes = bytes) (hzs : z.cells.size = sz) (hsz : 0 < sz)
    (ho : o.op = .call { callee := .builtin .append, args := #[s, x], argTypes := #[T, T] }) (w0 : World) (base : Nat) (v : Value) (n : Nat) (L : List Value) (hs : a.eval s = v) (hown : w0.ownsRow base E sz v n L)
    (cs : List Value) (hcs : cs.length = sz) (hone : ∀ u ∈ cs, u.oneCell' = true) (hx : a.eval x = .slice (some ⟨w0.heap.size, 0, none⟩) 1 1) (hn : n + 1 ≤ 2097152) (hby : bytes ≤ 64) (hbase : base ≤ w0.heap.size) (hw : w1 = w0.alloc (.cells cs.toArray E))
    (h : ∀ g cap w', w'.ownsRow base E sz (.slice (some ⟨g, 0, none⟩) (n + 1) cap) (n + 1) (L ++ cs) → (∀ W, Below base W w0 → Below base W w') → (∀ b E' L', Own w0 b E' L' → (∀ g', v.ownBlock = some g' → g' ≠ b) → Own w' b E' L') → w0.heap.size < w'.heap.size → wpList P ops Q rest (a.put o.dst (.slice (some ⟨g, 0, none⟩) (n + 1) cap)) w') :
    wpList P ops Q (o :: rest) a w1 := by
  subst hw
  have hb : (n + 1) * bytes ≤ 140737488355328 := by
    have := Nat.mul_le_mul hn hby
    omega
  refine wpList_append_lies _ hgd s x T ho base E i z sz bytes hT hi hz h1 h2 hzs hsz v n L hs (hown.alloc _) ⟨w0.heap.size, 0, none⟩ 1 1 cs hx (by omega) (World.news_of_block (Own.new w0 E cs)) hone (by omega) (by unfold maxLen; omega) hb (by simp; omega) _ rfl ?_
  intro g cap w' hown' hgrow _ _
  refine h g cap w' hown' (fun W hW => ?_) (fun b E' L' hO hne => ?_) ?_
  · exact grown_below (hW.alloc hbase _) (hown.alloc _) (by simp; omega) hgrow
  · have hO2 : Own (w0.alloc (.cells cs.toArray E)) b E' L' := hO.alloc _
    exact (hgrow.block b hO2.lt (fun e => hne b e.symm rfl)).trans hO2
  · have := hgrow.size
    simp at this; omega
end Go.Proofs.YtklgkbiobggbiaaGreatDoor
namespace Go.Proofs.YtklgkbiobggbiaaGreatDoor
open Go.ChangeShapes Go.WideShapes Go.ChangeAt Go.RowKit Go.Deep Go.Joins
set_option linter.unusedVariables false
set_option maxRecDepth 100000
set_option linter.unusedSimpArgs false
theorem infoStr : (Tryz.prog.info? 9).map (fun i => (i.zero, i.size, i.bytes)) = some (some (.string ByteArray.empty), 1, 16) := by kernel_rfl
theorem strS_one (a : ByteArray) : ∀ u ∈ [Value.string a], u.oneCell' = true := by
  intro u hu
  obtain rfl : u = .string a := by simpa using hu
  rfl
theorem strS_snoc (xs : List ByteArray) (a : ByteArray) : (xs ++ [a]).flatMap putStr = xs.flatMap putStr ++ [.string a] := by rw [List.flatMap_append]; rfl
/-- the parts so far: those that have ended, and what is left from 'from' on -/
def PartsAt (c : UInt8) (s : ByteArray) (i from_ : Nat) (o : List ByteArray) : Prop := from_ ≤ i ∧ partsL c (s.data.toList.take i) = o.map (·.data.toList) ++ [(s.data.toList.take i).drop from_]
theorem partsAt_start (c : UInt8) (s : ByteArray) : PartsAt c s 0 0 [] := ⟨Nat.le_refl _, rfl⟩
theorem extract_toList (s : ByteArray) (a b : Nat) : (s.extract a b).data.toList = (s.data.toList.take b).drop a := by
  rw [ByteArray.data_extract, Array.toList_extract, List.extract_eq_take_drop, ← List.drop_take]
theorem partsAt_hit {c : UInt8} {s : ByteArray} {i f : Nat} {o : List ByteArray} (h : PartsAt c s i f o) (hi : i < s.size) (hc : s[i] = c) : PartsAt c s (i + 1) (i + 1) (o ++ [s.extract f i]) := by
  obtain ⟨h1, h2⟩ := h
  refine ⟨Nat.le_refl _, ?_⟩
  rw [take_snocB s i hi, partsL_snoc h2, if_pos hc, List.map_append, List.map_cons, List.map_nil, extract_toList]
  congr 2
  rw [List.drop_eq_nil_of_le]
  simp
  omega
theorem partsAt_miss {c : UInt8} {s : ByteArray} {i f : Nat} {o : List ByteArray} (h : PartsAt c s i f o) (hi : i < s.size) (hc : s[i] ≠ c) : PartsAt c s (i + 1) f o := by
  obtain ⟨h1, h2⟩ := h
  refine ⟨by omega, ?_⟩
  rw [take_snocB s i hi, partsL_snoc h2, if_neg hc]
  congr 2
  rw [List.drop_append_of_le_length]
  simp
  have : i ≤ s.data.size := Nat.le_of_lt hi
  omega
theorem partsAt_end {c : UInt8} {s : ByteArray} {f : Nat} {o : List ByteArray} (h : PartsAt c s s.size f o) : partsS c s = o ++ [s.extract f s.size] := by
  obtain ⟨h1, h2⟩ := h
  have e : s.data.toList.take s.size = s.data.toList := List.take_of_length_le (by simp)
  unfold partsS
  rw [e] at h2
  rw [h2, List.map_append, List.map_map, List.map_cons, List.map_nil]
  congr 1
  · conv => rhs; rw [← List.map_id o]
    refine List.map_congr_left fun x _ => ?_
    cases x; simp
  · congr 1
    apply bytes_inj
    rw [extract_toList, e]
theorem partsAt_len {c : UInt8} {s : ByteArray} {i f : Nat} {o : List ByteArray} (h : PartsAt c s i f o) : o.length ≤ i := by
  have h1 := partsL_len c (s.data.toList.take i)
  rw [h.2] at h1
  simp at h1
  omega

def Tryz.layCut_ren : Go.Shelf.Ren := ⟨fun | 145 => 88 | 220 => 141 | 219 => 179 | 217 => 212 | 225 => 213 | 224 => 214 | 267 => 215 | 266 => 230 | 314 => 231 | n => n, fun | 9 => 9 | 4 => 4 | 59 => 108 | 3 => 3 | 5 => 5 | 46 => 106 | 146 => 216 | 51 => 159 | n => n, fun | 1 => 0 | n => n⟩
theorem Tryz.layCut : Go.Proofs.LaysM.n145 Tryz.prog Tryz.layCut_ren := {
  mixed := by kernel_rfl
  f145 := Tryz.func88.trans (congrArg some (by kernel_rfl))
  f217 := Tryz.func212.trans (congrArg some (by kernel_rfl))
  f219 := Tryz.func179.trans (congrArg some (by kernel_rfl))
  f220 := Tryz.func141.trans (congrArg some (by kernel_rfl))
  f224 := Tryz.func214.trans (congrArg some (by kernel_rfl))
  f225 := Tryz.func213.trans (congrArg some (by kernel_rfl))
  f266 := Tryz.func230.trans (congrArg some (by kernel_rfl))
  f267 := Tryz.func215.trans (congrArg some (by kernel_rfl))
  f314 := Tryz.func231.trans (congrArg some (by kernel_rfl))
  t3 := Tryz.underlying3
  a3 := Tryz.isAgg3
  z3 := Tryz.sizeOf3
  v3 := Tryz.zeroValue3
  t4 := Tryz.underlying4
  a4 := Tryz.isAgg4
  z4 := Tryz.sizeOf4
  v4 := Tryz.zeroValue4
  t5 := Tryz.underlying5
  a5 := Tryz.isAgg5
  z5 := Tryz.sizeOf5
  v5 := Tryz.zeroValue5
  t9 := Tryz.underlying9
  a9 := Tryz.isAgg9
  z9 := Tryz.sizeOf9
  v9 := Tryz.zeroValue9
  t46 := Tryz.underlying106
  a46 := Tryz.isAgg106
  z46 := Tryz.sizeOf106
  v46 := Tryz.zeroValue106
  t51 := Tryz.underlying159
  a51 := Tryz.isAgg159
  z51 := Tryz.sizeOf159
  v51 := Tryz.zeroValue159
  t59 := Tryz.underlying108
  a59 := Tryz.isAgg108
  z59 := Tryz.sizeOf108
  v59 := Tryz.zeroValue108
  t146 := Tryz.underlying216
  a146 := Tryz.isAgg216
  z146 := Tryz.sizeOf216
  v146 := Tryz.zeroValue216
  g1 := by kernel_rfl
  i3 := by kernel_rfl
  i4 := by kernel_rfl
  i5 := by kernel_rfl
  i9 := by kernel_rfl
  i46 := by kernel_rfl
  i51 := by kernel_rfl
  i59 := by kernel_rfl
  i146 := by kernel_rfl
  m1 := by kernel_rfl
  s1_3 := fun w h => Go.Proofs.cell_of_shapedOpen_int (zero := #[.int .i64 0]) (t := 3) h (of_decide_eq_true (by kernel_rfl)) (by kernel_rfl) rfl (by kernel_rfl) (by kernel_rfl) Tryz.underlying3 }
/-- the variable internal/bytealg.MaxLen holds a number -/
def MaxL (w : World) : Prop := ∃ m : Int, w.cell? ⟨0, 0, none⟩ = some (.int .i64 m)
theorem maxL_of {w : World} (h : w.ShapedOpen Tryz.prog) : MaxL w := Tryz.layCut.s1_3 w h
theorem MaxL.below {w w' : World} (h : MaxL w) (b : Below w.heap.size w w') : MaxL w' := by
  obtain ⟨m, h1⟩ := h
  exact ⟨m, (b.cell (p := ⟨_, 0, none⟩) (Lib.lt_of_cell h1)).trans h1⟩
def Tryz.laySplit_ren : Go.Shelf.Ren := ⟨fun | 146 => 43 | 221 => 87 | 268 => 138 | 138 => 139 | 143 => 140 | 195 => 176 | 197 => 177 | 218 => 178 | 219 => 179 | 260 => 211 | 217 => 212 | 225 => 213 | 224 => 214 | 267 => 215 | 266 => 230 | 314 => 231 | n => n, fun | 9 => 9 | 31 => 37 | 3 => 3 | 4 => 4 | 0 => 0 | 105 => 183 | 21 => 21 | 5 => 5 | 46 => 106 | 119 => 230 | 139 => 233 | 138 => 232 | 146 => 216 | 51 => 159 | n => n, fun | 1 => 0 | 3 => 4 | 4 => 5 | n => n⟩
theorem Tryz.laySplit : Go.Proofs.LaysM.n146 Tryz.prog Tryz.laySplit_ren := {
  mixed := by kernel_rfl
  f138 := Tryz.func139.trans (congrArg some (by kernel_rfl))
  f143 := Tryz.func140.trans (congrArg some (by kernel_rfl))
  f146 := Tryz.func43.trans (congrArg some (by kernel_rfl))
  f195 := Tryz.func176.trans (congrArg some (by kernel_rfl))
  f197 := Tryz.func177.trans (congrArg some (by kernel_rfl))
  f217 := Tryz.func212.trans (congrArg some (by kernel_rfl))
  f218 := Tryz.func178.trans (congrArg some (by kernel_rfl))
  f219 := Tryz.func179.trans (congrArg some (by kernel_rfl))
  f221 := Tryz.func87.trans (congrArg some (by kernel_rfl))
  f224 := Tryz.func214.trans (congrArg some (by kernel_rfl))
  f225 := Tryz.func213.trans (congrArg some (by kernel_rfl))
  f260 := Tryz.func211.trans (congrArg some (by kernel_rfl))
  f266 := Tryz.func230.trans (congrArg some (by kernel_rfl))
  f267 := Tryz.func215.trans (congrArg some (by kernel_rfl))
  f268 := Tryz.func138.trans (congrArg some (by kernel_rfl))
  f314 := Tryz.func231.trans (congrArg some (by kernel_rfl))
  t0 := Tryz.underlying0
  a0 := Tryz.isAgg0
  z0 := Tryz.sizeOf0
  v0 := Tryz.zeroValue0
  t3 := Tryz.underlying3
  a3 := Tryz.isAgg3
  z3 := Tryz.sizeOf3
  v3 := Tryz.zeroValue3
  t4 := Tryz.underlying4
  a4 := Tryz.isAgg4
  z4 := Tryz.sizeOf4
  v4 := Tryz.zeroValue4
  t5 := Tryz.underlying5
  a5 := Tryz.isAgg5
  z5 := Tryz.sizeOf5
  v5 := Tryz.zeroValue5
  t9 := Tryz.underlying9
  a9 := Tryz.isAgg9
  z9 := Tryz.sizeOf9
  v9 := Tryz.zeroValue9
  t21 := Tryz.underlying21
  a21 := Tryz.isAgg21
  z21 := Tryz.sizeOf21
  v21 := Tryz.zeroValue21
  t31 := Tryz.underlying37
  a31 := Tryz.isAgg37
  z31 := Tryz.sizeOf37
  v31 := Tryz.zeroValue37
  t46 := Tryz.underlying106
  a46 := Tryz.isAgg106
  z46 := Tryz.sizeOf106
  v46 := Tryz.zeroValue106
  t51 := Tryz.underlying159
  a51 := Tryz.isAgg159
  z51 := Tryz.sizeOf159
  v51 := Tryz.zeroValue159
  t105 := Tryz.underlying183
  a105 := Tryz.isAgg183
  z105 := Tryz.sizeOf183
  v105 := Tryz.zeroValue183
  t119 := Tryz.underlying230
  a119 := Tryz.isAgg230
  z119 := Tryz.sizeOf230
  t138 := Tryz.underlying232
  a138 := Tryz.isAgg232
  z138 := Tryz.sizeOf232
  v138 := Tryz.zeroValue232
  t139 := Tryz.underlying233
  a139 := Tryz.isAgg233
  z139 := Tryz.sizeOf233
  v139 := Tryz.zeroValue233
  t146 := Tryz.underlying216
  a146 := Tryz.isAgg216
  z146 := Tryz.sizeOf216
  v146 := Tryz.zeroValue216
  g1 := by kernel_rfl
  g3 := by kernel_rfl
  g4 := by kernel_rfl
  i0 := by kernel_rfl
  i3 := by kernel_rfl
  i4 := by kernel_rfl
  i5 := by kernel_rfl
  i9 := by kernel_rfl
  i21 := by kernel_rfl
  i31 := by kernel_rfl
  i46 := by kernel_rfl
  i51 := by kernel_rfl
  i105 := by kernel_rfl
  i138 := by kernel_rfl
  i139 := by kernel_rfl
  i146 := by kernel_rfl
  m1 := by kernel_rfl
  s1_3 := fun w h => Go.Proofs.cell_of_shapedOpen_int (zero := #[.int .i64 0]) (t := 3) h (of_decide_eq_true (by kernel_rfl)) (by kernel_rfl) rfl (by kernel_rfl) (by kernel_rfl) Tryz.underlying3
  m3 := by kernel_rfl
  m4 := by kernel_rfl }
theorem impl_Split (c : UInt8) (s : ByteArray) (w : World) (hs : s.size ≤ 1048576) (hm : MaxL w) :
    Calls Tryz.prog 43 #[.string s, .string ⟨#[c]⟩] w fun e w' => e = .returned (.slice (some ⟨w.heap.size, 0, none⟩) (partsS c s).length (partsS c s).length) ∧ Own w' w.heap.size 9 ((partsS c s).flatMap putStr) ∧ Below w.heap.size w w' := by
  obtain ⟨m, h1⟩ := hm
  refine (Any.strings_Split { Tryz.laySplit with } Tryz.laySplit.i9 s ⟨#[c]⟩ m w (by omega) h1 (by show 1 ≤ 1; decide)).mono ?_
  rintro e w' ⟨rfl, rfl⟩
  have e1 := partsS_split c s
  have hl : Lib.countB s ⟨#[c]⟩ + 1 = (partsS c s).length := by
    have := Lib.splitB_all ⟨#[c]⟩ (by show 1 ≤ 1; decide) 0 _ s rfl
    rw [e1] at this
    exact this.symm
  rw [hl]
  have e2 : (Lib.splitB ⟨#[c]⟩ 0 (Lib.countB s ⟨#[c]⟩) s).map Value.string = (partsS c s).flatMap putStr := by
    rw [e1]
    generalize partsS c s = xs
    induction xs with
    | nil => rfl
    | cons x xs ih => rw [List.map_cons, List.flatMap_cons, ih]; rfl
  rw [e2]
  exact ⟨rfl, Own.new w _ _, (Below.refl _ _).alloc (Nat.le_refl _) _⟩
theorem impl_Cut (c : UInt8) (s : ByteArray) (w : World) (hs : s.size ≤ 2147483647) (hm : MaxL w) :
    Calls Tryz.prog 88 #[.string s, .string ⟨#[c]⟩] w fun e w' => e = .returned (.tuple #[.string (cutA c s), .string (cutB c s), .bool (cutF c s)]) ∧ Below w.heap.size w w' := by
  obtain ⟨m, h1⟩ := hm
  refine (Any.strings_Cut { Tryz.layCut with } s ⟨#[c]⟩ m w (by omega) h1).mono ?_
  rintro e w' ⟨rfl, n, rfl⟩
  exact ⟨rfl, below_dn (Below.refl _ _) n⟩
end Go.Proofs.YtklgkbiobggbiaaGreatDoor
