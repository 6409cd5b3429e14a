/- Frequencies read from their text: what both sides compute. -/
import Derived.Test.YtklgkbiobggbiaaDoorRows
import Derived.Test.YtklgkbiobggbiaaDoorFreeT
import Derived.Test.YtklgkbiobggbiaaDoorHertz
namespace Go.Proofs.YtklgkbiobggbiaaDoor
open Go.ChangeShapes Go.WideShapes Go.ChangeAt Go.RowKit Go.Deep Go.Joins
set_option linter.unusedVariables false
set_option maxRecDepth 100000
set_option linter.unusedSimpArgs false
def hzB (f : Int) : Bool := inB f 10000 20000000
/-- a frequency read from its text -/
def hertzR (s : ByteArray) : Option Int := (numS (cutA 46 s ++ cutB 46 s)).bind fun f => if hzB f = true ∧ hertzT f = s then some f else none
def hertzV (s : ByteArray) : Int := (hertzR s).getD 0
theorem hertzV_some {s : ByteArray} {f : Int} (h : hertzR s = some f) : hertzV s = f ∧ (hertzR s).isSome = true := by unfold hertzV; rw [h]; exact ⟨rfl, rfl⟩
theorem hertzV_none {s : ByteArray} (h : hertzR s = none) : hertzV s = 0 ∧ (hertzR s).isSome = false := by unfold hertzV; rw [h]; exact ⟨rfl, rfl⟩
theorem digit_free {b : UInt8} {d : Nat} (hd : d < 10) (hb : 48 ≤ b.toNat ∧ b.toNat ≤ 57 → False) : b ≠ UInt8.ofNat (48 + d) := by
  rintro rfl
  have : (UInt8.ofNat (48 + d)).toNat = 48 + d := UInt8.toNat_ofNat_of_lt' (by show 48 + d < 256; omega)
  exact hb (by omega)
theorem pad3_free {r : Nat} (h : r < 1000) : (46 : UInt8) ∉ (pad3 r).data.toList := by
  intro q
  have q : (46 : UInt8) = UInt8.ofNat (48 + r / 100) ∨ (46 : UInt8) = UInt8.ofNat (48 + r / 10 % 10) ∨ (46 : UInt8) = UInt8.ofNat (48 + r % 10) := by simpa [pad3] using q
  have e : (46 : UInt8).toNat = 46 := rfl
  rcases q with q | q | q
  · exact digit_free (d := r / 100) (by omega) (by omega) q
  · exact digit_free (d := r / 10 % 10) (by omega) (by omega) q
  · exact digit_free (d := r % 10) (by omega) (by omega) q
theorem hertzT_free {f : Int} {c : UInt8} (h0 : 0 ≤ f) (h1 : c ≠ 45) (h2 : ¬ (48 ≤ c.toNat ∧ c.toNat ≤ 57)) (h3 : c ≠ 46) : c ∉ (hertzT f).data.toList := by
  intro q
  have q' : c ∈ (decT (f / 1000)).data.toList ++ ([46] ++ (pad3 (f % 1000).toNat).data.toList) := by simpa [hertzT] using q
  rcases List.mem_append.1 q' with q | q
  · exact decT_free h1 h2 q
  · rcases List.mem_append.1 q with q | q
    · exact h3 (by simpa using q)
    · have hp : ∀ d, d < 10 → c ≠ UInt8.ofNat (48 + d) := fun d hd => digit_free hd h2
      have q2 : c = UInt8.ofNat (48 + (f % 1000).toNat / 100) ∨ c = UInt8.ofNat (48 + (f % 1000).toNat / 10 % 10) ∨ c = UInt8.ofNat (48 + (f % 1000).toNat % 10) := by simpa [pad3] using q
      rcases q2 with q | q | q
      · exact hp _ (by omega) q
      · exact hp _ (by omega) q
      · exact hp _ (by omega) q
theorem digits_pad : ∀ (u : Nat), 1000 ≤ u → Lib.decDigits u = Lib.decDigits (u / 1000) ++ [UInt8.ofNat (48 + u % 1000 / 100), UInt8.ofNat (48 + u % 1000 / 10 % 10), UInt8.ofNat (48 + u % 1000 % 10)] := by
  intro u hu
  rw [Lib.decDigits, dif_neg (by omega), Lib.decDigits, dif_neg (by omega), Lib.decDigits, dif_neg (by omega)]
  rw [show u / 10 / 10 / 10 = u / 1000 from by omega, show u / 10 / 10 % 10 = u % 1000 / 100 from by omega, show u / 10 % 10 = u % 1000 / 10 % 10 from by omega, show u % 10 = u % 1000 % 10 from by omega]
  simp
theorem decT_pad {f : Int} (h : 1000 ≤ f) : decT (f / 1000) ++ pad3 (f % 1000).toNat = decT f := by
  obtain ⟨u, rfl⟩ : ∃ u : Nat, f = (u : Int) := ⟨f.toNat, by omega⟩
  rw [show ((u : Int) / 1000) = ((u / 1000 : Nat) : Int) from by omega, show ((u : Int) % 1000).toNat = u % 1000 from by omega, decT_nat, decT_nat, digits_pad u (by omega)]
  apply bytes_inj
  simp [pad3]
theorem hertz_cut {f : Int} (h : hzB f = true) : partsS 46 (hertzT f) = [decT (f / 1000), pad3 (f % 1000).toNat] ∧ cutA 46 (hertzT f) = decT (f / 1000) ∧ cutB 46 (hertzT f) = pad3 (f % 1000).toNat := by
  have hb := inB_true h
  have h1 : (46 : UInt8) ∉ (decT (f / 1000)).data.toList := decT_free (by decide) (by decide)
  have h2 : (46 : UInt8) ∉ (pad3 (f % 1000).toNat).data.toList := pad3_free (by omega)
  exact ⟨parts_of_two h1 h2, cut_joined h1⟩
theorem hertzR_text {f : Int} (h : hzB f = true) : hertzR (hertzT f) = some f := by
  have hb := inB_true h
  obtain ⟨_, e1, e2⟩ := hertz_cut h
  unfold hertzR
  rw [e1, e2, decT_pad (by omega), num_decT (by omega) (by omega), Option.bind_some, if_pos ⟨h, rfl⟩]
theorem hertzR_some {s : ByteArray} {f : Int} (h : hertzR s = some f) : hzB f = true ∧ hertzT f = s := by
  unfold hertzR at h
  cases hn : numS (cutA 46 s ++ cutB 46 s) with
  | none => rw [hn] at h; cases h
  | some g =>
    rw [hn, Option.bind_some] at h
    by_cases hc : hzB g = true ∧ hertzT g = s
    · rw [if_pos hc] at h
      obtain rfl : g = f := by simpa using h
      exact hc
    · rw [if_neg hc] at h; cases h
theorem hertzR_parts {s : ByteArray} {f : Int} (h : hertzR s = some f) : partsS 46 s = [decT (f / 1000), pad3 (f % 1000).toNat] := by
  obtain ⟨h1, rfl⟩ := hertzR_some h
  exact (hertz_cut h1).1
theorem hertzR_not2 {s : ByteArray} (h : (partsS 46 s).length ≠ 2) : hertzR s = none := by
  cases hr : hertzR s with
  | none => rfl
  | some f => rw [hertzR_parts hr] at h; exact absurd rfl h
theorem hertzR_two {s a b : ByteArray} (h : partsS 46 s = [a, b]) {f : Int} (hr : hertzR s = some f) : a = decT (f / 1000) ∧ b = pad3 (f % 1000).toNat ∧ 10000 ≤ f ∧ f ≤ 20000000 := by
  have := hertzR_parts hr
  rw [h] at this
  have hb := inB_true (hertzR_some hr).1
  exact ⟨by simpa using congrArg (fun l => l.headD ⟨#[]⟩) this, by simpa using congrArg (fun l => (l.drop 1).headD ⟨#[]⟩) this, hb.1, hb.2⟩
theorem hertzR_size {s a b : ByteArray} (h : partsS 46 s = [a, b]) (hb : b.size ≠ 3) : hertzR s = none := by
  cases hr : hertzR s with
  | none => rfl
  | some f => exact absurd (by rw [(hertzR_two h hr).2.1]; rfl) hb
theorem hertzR_num {s a b : ByteArray} (h : partsS 46 s = [a, b]) (hn : numS a = none) : hertzR s = none := by
  cases hr : hertzR s with
  | none => rfl
  | some f =>
    obtain ⟨e, _, h1, h2⟩ := hertzR_two h hr
    rw [e, num_decT (by omega) (by omega)] at hn
    cases hn
theorem hertzR_range {s a b : ByteArray} {n : Int} (h : partsS 46 s = [a, b]) (hn : numS a = some n) (ho : n < 0 ∨ 1000000 < n) : hertzR s = none := by
  cases hr : hertzR s with
  | none => rfl
  | some f =>
    obtain ⟨e, _, h1, h2⟩ := hertzR_two h hr
    rw [e, num_decT (by omega) (by omega)] at hn
    obtain rfl : f / 1000 = n := by simpa using hn
    omega
/-- the digit of a byte -/
def hdigB (c : UInt8) : Bool := inB c.toNat 48 57
theorem hdigB_of {d : Nat} (h : d < 10) : hdigB (UInt8.ofNat (48 + d)) = true := by
  have : (UInt8.ofNat (48 + d)).toNat = 48 + d := UInt8.toNat_ofNat_of_lt' (by show 48 + d < 256; omega)
  unfold hdigB
  rw [this]
  exact inB_mk ⟨by omega, by omega⟩
theorem pad3_dig {r : Nat} (h : r < 1000) (i : Nat) (hi : i < (pad3 r).size) : hdigB (pad3 r)[i] = true := by
  have h3 : (pad3 r).size = 3 := rfl
  match i, hi with
  | 0, _ => exact hdigB_of (d := r / 100) (by omega)
  | 1, _ => exact hdigB_of (d := r / 10 % 10) (by omega)
  | 2, _ => exact hdigB_of (d := r % 10) (by omega)
  | i + 3, hi => omega
theorem hertzR_digit {s a b : ByteArray} (h : partsS 46 s = [a, b]) {i : Nat} (hi : i < b.size) (hd : hdigB b[i] = false) : hertzR s = none := by
  cases hr : hertzR s with
  | none => rfl
  | some f =>
    obtain ⟨_, e, h1, h2⟩ := hertzR_two h hr
    subst e
    rw [pad3_dig (by omega) i hi] at hd
    cases hd
/-- the value so far: n, and i digits behind it -/
def digV (n : Int) (b : ByteArray) : Nat → Int
  | 0 => n
  | i + 1 => 10 * digV n b i + (((b.data.toList[i]?).getD 48).toNat - 48 : Int)
theorem digV_succ (n : Int) (b : ByteArray) (i : Nat) (h : i < b.size) : digV n b (i + 1) = 10 * digV n b i + ((b[i].toNat : Int) - 48) := by
  have e : b.data.toList[i]? = some b[i] := by
    rw [List.getElem?_eq_getElem (by simpa using h)]; rfl
  show 10 * digV n b i + _ = _
  rw [e]; rfl
theorem hdigB_bd {c : UInt8} (h : hdigB c = true) : 48 ≤ c.toNat ∧ c.toNat ≤ 57 := by
  have := inB_true h
  omega
theorem digV_bd {n : Int} {b : ByteArray} (h0 : 0 ≤ n) : ∀ i, i ≤ b.size → (∀ j (hj : j < b.size), j < i → hdigB b[j] = true) → n ≤ digV n b i ∧ digV n b i + 1 ≤ (n + 1) * 10 ^ i
  | 0, _, _ => ⟨Int.le_refl _, by simp [digV]⟩
  | i + 1, hi, h => by
    have ih := digV_bd (b := b) h0 i (by omega) (fun j hj hji => h j hj (by omega))
    have hd := hdigB_bd (h i (by omega) (by omega))
    rw [digV_succ n b i (by omega), Int.pow_succ, ← Int.mul_assoc]
    omega
/-- three digits are read back -/
theorem hertzR_good {s a b : ByteArray} {n : Int} (h : partsS 46 s = [a, b]) (hn : numS a = some n) (h0 : 0 ≤ n) (h3 : b.size = 3) (hd : ∀ j (hj : j < b.size), hdigB b[j] = true) : hertzR s = if hzB (digV n b 3) = true then some (digV n b 3) else none := by
  have e1 : digV n b 1 = 10 * digV n b 0 + ((b[0].toNat : Int) - 48) := digV_succ n b 0 (by omega)
  have e2 : digV n b 2 = 10 * digV n b 1 + ((b[1].toNat : Int) - 48) := digV_succ n b 1 (by omega)
  have e3 : digV n b 3 = 10 * digV n b 2 + ((b[2].toNat : Int) - 48) := digV_succ n b 2 (by omega)
  have e0 : digV n b 0 = n := rfl
  have d0 := hdigB_bd (hd 0 (by omega))
  have d1 := hdigB_bd (hd 1 (by omega))
  have d2 := hdigB_bd (hd 2 (by omega))
  obtain ⟨F, hF⟩ : ∃ F, digV n b 3 = F := ⟨_, rfl⟩
  rw [hF]
  have ef : F = 1000 * n + (100 * ((b[0].toNat : Int) - 48) + 10 * ((b[1].toNat : Int) - 48) + ((b[2].toNat : Int) - 48)) := by omega
  have q1 : F / 1000 = n := by omega
  have q2 : (F % 1000).toNat = 100 * (b[0].toNat - 48) + 10 * (b[1].toNat - 48) + (b[2].toNat - 48) := by omega
  have hb : pad3 (F % 1000).toNat = b := by
    rw [q2]
    have u : ∀ (c : UInt8), 48 ≤ c.toNat → UInt8.ofNat (48 + (c.toNat - 48)) = c := fun c hc => by
      rw [show 48 + (c.toNat - 48) = c.toNat from by omega]; simp
    apply bytes_inj
    have el : b.data.toList = [b[0], b[1], b[2]] := by
      have hl : b.data.toList.length = 3 := by simpa using h3
      refine List.ext_getElem (by rw [hl]; rfl) fun i hi1 hi2 => ?_
      match i, hi2 with
      | 0, _ => rfl
      | 1, _ => rfl
      | 2, _ => rfl
    rw [el]
    unfold pad3
    simp only
    rw [show (100 * (b[0].toNat - 48) + 10 * (b[1].toNat - 48) + (b[2].toNat - 48)) / 100 = b[0].toNat - 48 from by omega,
      show (100 * (b[0].toNat - 48) + 10 * (b[1].toNat - 48) + (b[2].toNat - 48)) / 10 % 10 = b[1].toNat - 48 from by omega,
      show (100 * (b[0].toNat - 48) + 10 * (b[1].toNat - 48) + (b[2].toNat - 48)) % 10 = b[2].toNat - 48 from by omega, u _ d0.1, u _ d1.1, u _ d2.1]
  have hs : hertzT F = s := by
    unfold hertzT
    rw [q1, hb, (num_text hn).1, (parts_two h).1]
  by_cases hz : hzB F = true
  · rw [if_pos hz, ← hs, hertzR_text hz]
  · rw [if_neg hz]
    cases hr : hertzR s with
    | none => rfl
    | some f =>
      obtain ⟨g1, g2⟩ := hertzR_some hr
      obtain ⟨g3, g4, g5, g6⟩ := hertzR_two h hr
      rw [g3, num_decT (by omega) (by omega)] at hn
      have g7 : f / 1000 = n := by simpa using hn
      have g8 : f % 1000 = F % 1000 := by
        have hp : pad3 (f % 1000).toNat = pad3 (F % 1000).toNat := by rw [hb, g4]
        have hv : ∀ r : Nat, r < 1000 → (decT ((r : Int) + 1000)) = ⟨(UInt8.ofNat 49 :: (pad3 r).data.toList).toArray⟩ := fun r hr => by rw [decT1000 r hr]; rfl
        have a1 := hv (f % 1000).toNat (by omega)
        have a2 := hv (F % 1000).toNat (by omega)
        rw [hp, ← a2] at a1
        have b1 := num_decT (n := (((f % 1000).toNat : Nat) : Int) + 1000) (by omega) (by omega)
        have b2 := num_decT (n := (((F % 1000).toNat : Nat) : Int) + 1000) (by omega) (by omega)
        rw [a1, b2] at b1
        have := Option.some.inj b1
        omega
      have : f = F := by omega
      subst this
      exact absurd g1 hz
/-- the program's tests say what the reference finds -/
theorem hertz_tests (s : ByteArray) : (numS (cutA 46 s ++ cutB 46 s) = none → hertzR s = none) ∧ ∀ f, numS (cutA 46 s ++ cutB 46 s) = some f → (hzB f = true → hertzT f = s → hertzR s = some f) ∧ (hzB f = true → hertzT f ≠ s → hertzR s = none) ∧ (hzB f = false → hertzR s = none ∧ s ≠ ⟨#[]⟩) := by
  refine ⟨fun h => by unfold hertzR; rw [h]; rfl, fun f h => ⟨fun h1 h2 => ?_, fun h1 h2 => ?_, fun h1 => ⟨?_, ?_⟩⟩⟩
  · unfold hertzR; rw [h, Option.bind_some, if_pos ⟨h1, h2⟩]
  · unfold hertzR; rw [h, Option.bind_some, if_neg (fun q => h2 q.2)]
  · unfold hertzR; rw [h, Option.bind_some, if_neg (fun q => by rw [h1] at q; cases q.1)]
  · rintro rfl
    have e : cutA 46 ⟨#[]⟩ ++ cutB 46 ⟨#[]⟩ = ⟨#[]⟩ := rfl
    rw [e, numS_bad (s := ⟨#[]⟩) (.inl (Nat.zero_le _))] at h
    cases h
end Go.Proofs.YtklgkbiobggbiaaDoor
