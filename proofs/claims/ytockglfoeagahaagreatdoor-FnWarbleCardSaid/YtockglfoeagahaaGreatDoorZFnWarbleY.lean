/- Contracts and plain facts, joined: NumL. -/
import Derived.Test.YtockglfoeagahaaGreatDoorRows
import Derived.Test.YtockglfoeagahaaGreatDoorZFnWarbleX
import Derived.Lib.ParseIntB
import Derived.Lib.Atoi
import Derived.Lib.Strings
namespace Go.Proofs.YtockglfoeagahaaGreatDoor
open Go.ChangeShapes Go.WideShapes Go.ChangeAt Go.RowKit Go.Deep Go.Joins
set_option linter.unusedVariables false
set_option maxRecDepth 100000
set_option linter.unusedSimpArgs false
/-- where the digits begin -/
def atN (s : ByteArray) : Nat := if s.data.toList.head? = some 45 then 1 else 0
def badN (s : ByteArray) : Prop := s.size ≤ atN s ∨ 18 < s.size - atN s ∨ ((s.data.toList.drop (atN s)).head? = some 48 ∧ 1 < s.size)
instance (s : ByteArray) : Decidable (badN s) := by unfold badN; infer_instance
/-- the number with a decimal text -/
def numS (s : ByteArray) : Option Int := if badN s then none else (Lib.decFrom 0 (s.data.toList.drop (atN s))).map fun u => if atN s = 1 then -(u : Int) else (u : Int)
def numV (s : ByteArray) : Int := (numS s).getD 0
theorem num_none {s : ByteArray} (h : numS s = none) : numV s = 0 ∧ (numS s).isSome = false := by unfold numV; rw [h]; exact ⟨rfl, rfl⟩
theorem num_some {s : ByteArray} {v : Int} (h : numS s = some v) : numV s = v ∧ (numS s).isSome = true := by unfold numV; rw [h]; exact ⟨rfl, rfl⟩
theorem numS_bad {s : ByteArray} (h : badN s) : numS s = none := if_pos h
theorem numS_ok {s : ByteArray} {u : Nat} (h : ¬ badN s) (hu : Lib.decFrom 0 (s.data.toList.drop (atN s)) = some u) : numS s = some (if atN s = 1 then -(u : Int) else (u : Int)) := by
  unfold numS
  rw [if_neg h, hu]; rfl
theorem numS_digit {s : ByteArray} {k : Nat} {c : UInt8} (h : (s.data.toList.drop (atN s))[k]? = some c) (hc : inB c.toNat 48 57 = false) : numS s = none := by
  by_cases hb : badN s
  · exact numS_bad hb
  · unfold numS
    rw [if_neg hb]
    cases hd : Lib.decFrom 0 (s.data.toList.drop (atN s)) with
    | none => rfl
    | some n =>
      obtain ⟨d, hd2⟩ := Lib.digit_of_decFrom _ _ _ hd k c h
      have := Lib.digitVal_eq hd2
      rw [inB_mk ⟨by omega, by omega⟩] at hc
      cases hc
theorem digitVal_of {c : UInt8} (h : inB c.toNat 48 57 = true) : Lib.digitVal c = some (c.toNat - 48) := by
  have := inB_true h
  unfold Lib.digitVal
  rw [if_pos ⟨by omega, by omega⟩]
theorem decFrom_snoc : ∀ (l : List UInt8) (acc : Nat) (b : UInt8), Lib.decFrom acc (l ++ [b]) = (Lib.decFrom acc l).bind fun m => (Lib.digitVal b).map fun d => m * 10 + d
  | [], acc, b => by
    simp only [List.nil_append, Lib.decFrom]
    cases Lib.digitVal b <;> rfl
  | a :: l, acc, b => by
    simp only [List.cons_append, Lib.decFrom]
    cases Lib.digitVal a with
    | none => rfl
    | some d => exact decFrom_snoc l _ b
theorem digit_byte {b : UInt8} {d : Nat} (h : Lib.digitVal b = some d) : UInt8.ofNat (48 + d) = b ∧ d < 10 := by
  obtain ⟨h1, h2, rfl⟩ := Lib.digitVal_eq h
  refine ⟨?_, by omega⟩
  rw [show 48 + (b.toNat - 48) = b.toNat from by omega]
  exact UInt8.ofNat_toNat
/-- rows of digits without a leading 0 -/
theorem canon : ∀ (n : Nat) (r : List UInt8), r.length = n + 1 → ∀ u, Lib.decFrom 0 r = some u → r.head? ≠ some 48 → Lib.decDigits u = r ∧ 0 < u
  | 0, r, hl, u, hu, hh => by
    match r, hl with
    | [b], _ =>
      simp only [Lib.decFrom] at hu
      cases hd : Lib.digitVal b with
      | none => rw [hd] at hu; cases hu
      | some d =>
        rw [hd] at hu
        obtain ⟨e, h10⟩ := digit_byte hd
        obtain rfl : u = d := by simpa using hu.symm
        refine ⟨by rw [Lib.decDigits, dif_pos h10, e], ?_⟩
        rcases Nat.eq_zero_or_pos u with q | q
        · subst q; exact absurd (by rw [← e]; rfl) hh
        · exact q
  | n + 1, r, hl, u, hu, hh => by
    have hne : r ≠ [] := fun q => by rw [q] at hl; simp at hl
    obtain ⟨r', b, rfl⟩ : ∃ r' b, r = r' ++ [b] := ⟨r.dropLast, r.getLast hne, (List.dropLast_concat_getLast hne).symm⟩
    have hl' : r'.length = n + 1 := by simpa using hl
    rw [decFrom_snoc] at hu
    cases hm : Lib.decFrom 0 r' with
    | none => rw [hm] at hu; cases hu
    | some m =>
      rw [hm] at hu
      cases hd : Lib.digitVal b with
      | none => rw [hd] at hu; cases hu
      | some d =>
        rw [hd] at hu
        obtain ⟨e, h10⟩ := digit_byte hd
        have hu2 : m * 10 + d = u := by simpa using hu
        have hh' : r'.head? ≠ some 48 := fun q => hh (by
          match r', hl' with
          | c :: r'', _ => exact q)
        obtain ⟨h1, h2⟩ := canon n r' hl' m hm hh'
        refine ⟨?_, by omega⟩
        rw [Lib.decDigits, dif_neg (by omega), show u / 10 = m from by omega, show u % 10 = d from by omega, h1, e]
theorem decDigits_head : ∀ (u : Nat), 0 < u → (Lib.decDigits u).head? ≠ some 48 := by
  intro u
  induction u using Nat.strongRecOn with
  | _ u ih =>
    intro hu
    by_cases h : u < 10
    · rw [Lib.decDigits, dif_pos h]
      intro q
      have q2 : UInt8.ofNat (48 + u) = 48 := by simpa using q
      have := congrArg UInt8.toNat q2
      rw [UInt8.toNat_ofNat_of_lt' (by show 48 + u < 256; omega)] at this
      have e : (48 : UInt8).toNat = 48 := rfl
      omega
    · rw [Lib.decDigits, dif_neg h]
      have := ih (u / 10) (by omega) (by omega)
      intro q
      refine this ?_
      match hd : Lib.decDigits (u / 10) with
      | [] =>
        have hl := Lib.decDigits_length (u / 10)
        have hp := Lib.nDigits_pos (u / 10)
        rw [hd] at hl
        simp at hl
        omega
      | c :: r => rw [hd] at q; exact q
/-- the text of the number with a row of digits is that row, unless a 0 leads it -/
theorem canon_iff {r : List UInt8} {u : Nat} (h0 : r ≠ []) (hu : Lib.decFrom 0 r = some u) : Lib.decDigits u = r ↔ ¬ (r.head? = some 48 ∧ 1 < r.length) := by
  have hl : r.length ≠ 0 := fun q => h0 (List.eq_nil_of_length_eq_zero q)
  constructor
  · rintro e ⟨h1, h2⟩
    by_cases hz : u = 0
    · subst hz
      have e0 : Lib.decDigits 0 = [48] := by rw [Lib.decDigits, dif_pos (by decide)]; rfl
      rw [e0] at e
      rw [← e] at h2
      simp at h2
    · exact decDigits_head u (by omega) (by rw [e]; exact h1)
  · intro hn
    by_cases h1 : r.head? = some 48
    · have hl1 : r.length = 1 := by
        have : ¬ 1 < r.length := fun q => hn ⟨h1, q⟩
        omega
      match r, hl1 with
      | [b], _ =>
        obtain rfl : b = 48 := by simpa using h1
        have : Lib.decFrom 0 [48] = some 0 := rfl
        rw [this] at hu
        obtain rfl : u = 0 := by simpa using hu.symm
        rw [Lib.decDigits, dif_pos (by decide)]; rfl
    · exact (canon (r.length - 1) r (by omega) u hu h1).1
theorem parseM_small : ∀ (l : List UInt8) (acc : Nat), (acc + 1) * 10 ^ l.length ≤ 1000000000000000000 → Lib.parseUintM (2 ^ 64 - 1) acc l = match Lib.decFrom acc l with | some u => .ok u | none => Lib.NumEnd.syntax
  | [], acc, _ => rfl
  | c :: r, acc, h => by
    simp only [Lib.parseUintM, Lib.decFrom, Lib.digitVal]
    have hp : 1 ≤ 10 ^ r.length := Nat.one_le_pow _ _ (by decide)
    have h2 : (acc + 1) * (10 ^ r.length * 10) ≤ 1000000000000000000 := by simpa [Nat.pow_succ] using h
    have h3 : (acc + 1) * 10 ≤ 1000000000000000000 := by
      refine Nat.le_trans ?_ h2
      rw [Nat.mul_comm (10 ^ r.length) 10, ← Nat.mul_assoc]
      exact Nat.le_mul_of_pos_right _ hp
    by_cases hd : 48 ≤ c.toNat ∧ c.toNat ≤ 57
    · rw [if_pos hd, if_pos hd, if_neg (by omega), if_neg (by omega)]
      refine parseM_small r _ ?_
      have h4 : acc * 10 + (c.toNat - 48) + 1 ≤ (acc + 1) * 10 := by omega
      refine Nat.le_trans (Nat.mul_le_mul_right _ h4) ?_
      rw [Nat.mul_assoc, Nat.mul_comm 10]; exact h2
    · rw [if_neg hd, if_neg hd]
theorem parseB_small {r : List UInt8} (h1 : r ≠ []) (h2 : r.length ≤ 18) : Lib.parseUintB 64 r = match Lib.decFrom 0 r with | some u => .ok u | none => Lib.NumEnd.syntax := by
  unfold Lib.parseUintB
  rw [if_neg h1]
  exact parseM_small r 0 (by rw [Nat.zero_add, Nat.one_mul]; exact Nat.pow_le_pow_right (by decide) h2)
theorem decDigits_hd : ∀ (u : Nat), ∃ c, (Lib.decDigits u).head? = some c ∧ 48 ≤ c.toNat ∧ c.toNat ≤ 57 := by
  intro u
  induction u using Nat.strongRecOn with
  | _ u ih =>
    by_cases h : u < 10
    · rw [Lib.decDigits, dif_pos h]
      refine ⟨UInt8.ofNat (48 + u), rfl, ?_⟩
      rw [UInt8.toNat_ofNat_of_lt' (by show 48 + u < 256; omega)]
      omega
    · rw [Lib.decDigits, dif_neg h]
      obtain ⟨c, h1, h2⟩ := ih (u / 10) (by omega)
      refine ⟨c, ?_, h2⟩
      match hd : Lib.decDigits (u / 10) with
      | [] => rw [hd] at h1; cases h1
      | a :: r => rw [hd] at h1; exact h1
theorem itoa_hd (v : Int) : (Lib.itoa v).head? ≠ some 43 := by
  unfold Lib.itoa
  split
  · intro q; cases q
  · intro q
    obtain ⟨c, h1, h2, h3⟩ := decDigits_hd v.toNat
    rw [h1] at q
    obtain rfl : c = 43 := by simpa using q
    have e : (43 : UInt8).toNat = 43 := rfl
    omega
theorem decT_is {v : Int} {s : ByteArray} : decT v = s ↔ Lib.itoa v = s.data.toList := by
  unfold decT
  constructor
  · rintro rfl; simp
  · intro h
    cases s with
    | mk d =>
      have : (Lib.itoa v).toArray = d := by rw [h]
      rw [this]
theorem itoa_nonneg' (u : Nat) : Lib.itoa (u : Int) = Lib.decDigits u := by
  unfold Lib.itoa
  rw [if_neg (by omega)]; rfl
theorem itoa_neg' {u : Nat} (h : 0 < u) : Lib.itoa (-(u : Int)) = 45 :: Lib.decDigits u := by
  unfold Lib.itoa
  rw [if_pos (by omega), show (-(u : Int)).natAbs = u from by omega]
/-- what the library's number and its text back say of a text -/
theorem parse_num {s : ByteArray} (h1 : 1 ≤ s.size - atN s) (h2 : s.size - atN s ≤ 18) :
    (∃ v, Lib.parseIntB 64 s.data.toList = .ok v ∧ (-1000000000000000000 < v ∧ v < 1000000000000000000) ∧ ((decT v = s ∧ numS s = some v) ∨ (decT v ≠ s ∧ numS s = none))) ∨ (Lib.parseIntB 64 s.data.toList = Lib.NumEnd.syntax ∧ numS s = none) := by
  have hsz : s.data.toList.length = s.size := by simp
  match hl : s.data.toList with
  | [] => rw [hl] at hsz; simp at hsz; try omega
  | c :: r0 =>
    have hlen : r0.length + 1 = s.size := by rw [hl] at hsz; simpa using hsz
    by_cases hc : c = 45
    · subst hc
      have ha : atN s = 1 := by unfold atN; rw [hl]; rfl
      have hd : s.data.toList.drop (atN s) = r0 := by rw [ha, hl]; rfl
      have hr0 : r0 ≠ [] := fun q => by rw [q] at hlen; simp at hlen; try omega
      have hp := parseB_small hr0 (by omega)
      have e45 : (45 : UInt8).toNat = 45 := rfl
      cases hu : Lib.decFrom 0 r0 with
      | none =>
        rw [hu] at hp
        refine .inr ⟨by simp only [Lib.parseIntB, e45, or_true, if_true, hp], ?_⟩
        unfold numS
        rw [hd, hu]; split <;> rfl
      | some u =>
        rw [hu] at hp
        have hlt := Lib.decFrom_lt18 hu (by omega)
        refine .inl ⟨-(u : Int), ?_, by omega, ?_⟩
        · simp only [Lib.parseIntB, e45, or_true, if_true, hp]
          rw [if_neg (by simp), if_neg (by simp; omega)]
        · by_cases hz : u = 0
          · subst hz
            have hh : r0.head? = some 48 := by
              by_cases q : r0.head? = some 48
              · exact q
              · exact absurd (canon (r0.length - 1) r0 (by omega) 0 hu q).2 (by omega)
            refine .inr ⟨fun q => ?_, numS_bad (.inr (.inr ⟨by rw [hd]; exact hh, by omega⟩))⟩
            have := decT_is.1 q
            rw [hl] at this
            have e0 : Lib.itoa (-((0 : Nat) : Int)) = [48] := by rw [show -((0 : Nat) : Int) = ((0 : Nat) : Int) from rfl, itoa_nonneg', Lib.decDigits, dif_pos (by decide)]; rfl
            rw [e0] at this
            cases this
          · have hi := canon_iff hr0 hu
            by_cases hh : r0.head? = some 48
            · have h1r : 1 < r0.length := by
                by_cases q : 1 < r0.length
                · exact q
                · match r0, hh, hr0 with
                  | [b], hh, _ =>
                    obtain rfl : b = 48 := by simpa using hh
                    have : Lib.decFrom 0 [48] = some 0 := rfl
                    rw [this] at hu
                    exact absurd (by simpa using hu.symm) hz
                  | b :: b2 :: r', _, _ => exact absurd (by simp) q
              refine .inr ⟨fun q => ?_, numS_bad (.inr (.inr ⟨by rw [hd]; exact hh, by omega⟩))⟩
              have := decT_is.1 q
              rw [hl, itoa_neg' (by omega)] at this
              exact (hi.1 (by simpa using this)) ⟨hh, h1r⟩
            · refine .inl ⟨decT_is.2 ?_, ?_⟩
              · rw [hl, itoa_neg' (by omega), hi.2 (fun q => hh q.1)]
              · have := numS_ok (s := s) (u := u) (fun q => by
                  rcases q with q | q | q
                  · omega
                  · omega
                  · rw [hd] at q; exact hh q.1) (by rw [hd]; exact hu)
                rw [this, if_pos ha]
    · have ha : atN s = 0 := by
        unfold atN
        rw [hl, if_neg]
        intro q
        exact hc (by simpa using q)
      have hd : s.data.toList.drop (atN s) = c :: r0 := by rw [ha, hl]; rfl
      have h45 : ¬ c.toNat = 45 := fun q => hc (UInt8.toNat_inj.1 q)
      by_cases hp43 : c = 43
      · subst hp43
        have e43 : (43 : UInt8).toNat = 43 := rfl
        have hn : numS s = none := numS_digit (k := 0) (c := 43) (by rw [hd]; rfl) (by rw [e43]; rfl)
        cases hr : r0 with
        | nil =>
          refine .inr ⟨?_, hn⟩
          simp only [Lib.parseIntB, e43, true_or, if_true]
          rfl
        | cons c2 r2 =>
          have hr0 : r0 ≠ [] := by rw [hr]; exact List.cons_ne_nil _ _
          have hp := parseB_small hr0 (by omega)
          rw [hr] at hp
          cases hu : Lib.decFrom 0 (c2 :: r2) with
          | none =>
            rw [hu] at hp
            exact .inr ⟨by simp only [Lib.parseIntB, e43, true_or, if_true, hp], hn⟩
          | some u =>
            rw [hu] at hp
            have hlt := Lib.decFrom_lt18 hu (by rw [hr] at hlen; omega)
            refine .inl ⟨(u : Int), ?_, by omega, .inr ⟨fun q => ?_, hn⟩⟩
            · simp only [Lib.parseIntB, e43, true_or, if_true, hp]
              rw [if_neg (by simp; omega), if_neg (by simp), if_neg (by simp)]
            · have := decT_is.1 q
              rw [hl] at this
              exact itoa_hd u (by rw [this]; rfl)
      · have h43 : ¬ c.toNat = 43 := fun q => hp43 (UInt8.toNat_inj.1 q)
        have hp := parseB_small (List.cons_ne_nil c r0) (by simp; omega)
        have hno : ¬ (c.toNat = 43 ∨ c.toNat = 45) := fun q => q.elim h43 h45
        cases hu : Lib.decFrom 0 (c :: r0) with
        | none =>
          rw [hu] at hp
          refine .inr ⟨by simp only [Lib.parseIntB]; rw [if_neg hno, hp], ?_⟩
          unfold numS
          rw [hd, hu]; split <;> rfl
        | some u =>
          rw [hu] at hp
          have hlt := Lib.decFrom_lt18 hu (by simp; omega)
          have hi := canon_iff (List.cons_ne_nil c r0) hu
          refine .inl ⟨(u : Int), ?_, by omega, ?_⟩
          · simp only [Lib.parseIntB]
            rw [if_neg hno, hp]
            simp only [h45, not_false_eq_true, true_and, false_and, if_false]
            rw [if_neg (by omega)]
          · by_cases hh : (c :: r0).head? = some 48 ∧ 1 < (c :: r0).length
            · refine .inr ⟨fun q => ?_, numS_bad (.inr (.inr ⟨by rw [hd]; exact hh.1, by have := hh.2; simp at this; omega⟩))⟩
              have := decT_is.1 q
              rw [hl, itoa_nonneg'] at this
              exact hi.1 this hh
            · refine .inl ⟨decT_is.2 (by rw [hl, itoa_nonneg', hi.2 hh]), ?_⟩
              have := numS_ok (s := s) (u := u) (fun q => by
                rcases q with q | q | q
                · omega
                · omega
                · rw [hd] at q; exact hh ⟨q.1, by simp; omega⟩) (by rw [hd]; exact hu)
              rw [this, if_neg (by omega)]
theorem trim_eq (s : ByteArray) : Lib.trimPrefix s.data.toList [45] = s.data.toList.drop (atN s) := by
  unfold Lib.trimPrefix Lib.hasPrefix atN
  match s.data.toList with
  | [] => rfl
  | c :: r =>
    by_cases h : c = 45
    · subst h; rfl
    · rw [if_neg (by simp; exact fun q => h q.symm), if_neg (by simpa using h)]; rfl
end Go.Proofs.YtockglfoeagahaaGreatDoor
