/- Sounds and goals read from their texts: what both sides compute. -/
import Derived.Test.YtklgkbiobggbiaaDoorRows
import Derived.Test.YtklgkbiobggbiaaDoorHertzL
import Derived.Test.YtklgkbiobggbiaaDoorSoundK
namespace Go.Proofs.YtklgkbiobggbiaaDoor
open Go.ChangeShapes Go.WideShapes Go.ChangeAt Go.RowKit Go.Deep Go.Joins
set_option linter.unusedVariables false
set_option maxRecDepth 100000
set_option linter.unusedSimpArgs false
theorem five_of {α : Type} {l : List α} (h : l.length = 5) : ∃ a b c d e, l = [a, b, c, d, e] := by
  match l, h with
  | [a, b, c, d, e], _ => exact ⟨a, b, c, d, e, rfl⟩
theorem seven_of {α : Type} {l : List α} (h : l.length = 7) : ∃ a b c d e f g, l = [a, b, c, d, e, f, g] := by
  match l, h with
  | [a, b, c, d, e, f, g], _ => exact ⟨a, b, c, d, e, f, g, rfl⟩
theorem joinT_five (c : UInt8) (a b d e f : ByteArray) : joinT c [a, b, d, e, f] = a ++ ⟨#[c]⟩ ++ b ++ ⟨#[c]⟩ ++ d ++ ⟨#[c]⟩ ++ e ++ ⟨#[c]⟩ ++ f := by
  apply bytes_inj
  unfold joinT
  simp [Lib.join, List.intercalate]
theorem joinT_seven (c : UInt8) (a b d e f g h : ByteArray) : joinT c [a, b, d, e, f, g, h] = joinT c [a, b, d, e, f] ++ ⟨#[c]⟩ ++ g ++ ⟨#[c]⟩ ++ h := by
  apply bytes_inj
  unfold joinT
  simp [Lib.join, List.intercalate]
/-- a sound as five numbers -/
structure Snd where
  a : Int
  b : Int
  c : Int
  d : Int
  e : Int
def sndZ : Snd := ⟨0, 0, 0, 0, 0⟩
def sndB (x : Snd) : Bool := [x.a, x.b, x.c, x.d, x.e].all hzB && rise5 x.a x.b x.c x.d x.e
def sndT (x : Snd) : ByteArray := joinT 32 ([x.a, x.b, x.c, x.d, x.e].map hertzT)
def sndOf (ws : List ByteArray) : Option Snd := match ws.map hertzR with
  | [some a, some b, some c, some d, some e] => if rise5 a b c d e = true then some ⟨a, b, c, d, e⟩ else none
  | _ => none
def sndR (s : ByteArray) : Option Snd := sndOf (partsS 32 s)
def sndV (s : ByteArray) : Snd := (sndR s).getD sndZ
theorem sndV_some {s : ByteArray} {x : Snd} (h : sndR s = some x) : sndV s = x ∧ (sndR s).isSome = true := by unfold sndV; rw [h]; exact ⟨rfl, rfl⟩
theorem sndV_none {s : ByteArray} (h : sndR s = none) : sndV s = sndZ ∧ (sndR s).isSome = false := by unfold sndV; rw [h]; exact ⟨rfl, rfl⟩
theorem sndOf_some {ws : List ByteArray} {x : Snd} (h : sndOf ws = some x) : ws.map hertzR = [some x.a, some x.b, some x.c, some x.d, some x.e] ∧ rise5 x.a x.b x.c x.d x.e = true := by
  unfold sndOf at h
  split at h
  · rename_i a b c d e hm
    by_cases hr : rise5 a b c d e = true
    · rw [if_pos hr] at h
      obtain rfl : (⟨a, b, c, d, e⟩ : Snd) = x := by simpa using h
      exact ⟨hm, hr⟩
    · rw [if_neg hr] at h; cases h
  · cases h
theorem map_hertz {ws : List ByteArray} {fs : List Int} (h : ws.map hertzR = fs.map some) : ws = fs.map hertzT ∧ ws.map hertzV = fs ∧ fs.all hzB = true := by
  induction ws generalizing fs with
  | nil =>
    cases fs with
    | nil => exact ⟨rfl, rfl, rfl⟩
    | cons f fs => cases h
  | cons w ws ih =>
    cases fs with
    | nil => cases h
    | cons f fs =>
      simp only [List.map_cons, List.cons.injEq] at h
      obtain ⟨h1, h2, h3⟩ := ih h.2
      obtain ⟨q1, q2⟩ := hertzR_some h.1
      refine ⟨by rw [List.map_cons, ← h1, q2], by rw [List.map_cons, h2, (hertzV_some h.1).1], ?_⟩
      rw [List.all_cons, q1, h3]; rfl
theorem map_hertz_text {fs : List Int} (h : fs.all hzB = true) : (fs.map hertzT).map hertzR = fs.map some := by
  induction fs with
  | nil => rfl
  | cons f fs ih =>
    rw [List.all_cons, Bool.and_eq_true] at h
    rw [List.map_cons, List.map_cons, ih h.2, hertzR_text h.1]; rfl
theorem sndOf_ok {ws : List ByteArray} {a b c d e : Int} (h : ws.map hertzR = [a, b, c, d, e].map some) : sndOf ws = if rise5 a b c d e = true then some ⟨a, b, c, d, e⟩ else none := by
  unfold sndOf; rw [h]; rfl
theorem sndOf_bad {ws : List ByteArray} {k : Nat} (hk : k < ws.length) (h : hertzR ws[k] = none) : sndOf ws = none := by
  cases hx : sndOf ws with
  | none => rfl
  | some x =>
    have hm := (sndOf_some hx).1
    have : (ws.map hertzR)[k]'(by simpa using hk) = none := by rw [List.getElem_map]; exact h
    have hk5 : k < 5 := by have := congrArg List.length hm; simp at this; omega
    simp only [hm] at this
    match k, hk5 with
    | 0, _ => cases this
    | 1, _ => cases this
    | 2, _ => cases this
    | 3, _ => cases this
    | 4, _ => cases this
theorem sndR_not5 {s : ByteArray} (h : (partsS 32 s).length ≠ 5) : sndR s = none := by
  cases hx : sndR s with
  | none => rfl
  | some x =>
    have := congrArg List.length (sndOf_some hx).1
    simp at this
    exact absurd this h
theorem sndOf_facts {ws : List ByteArray} {x : Snd} (h : sndOf ws = some x) : sndB x = true ∧ ws = [x.a, x.b, x.c, x.d, x.e].map hertzT ∧ ws.map hertzV = [x.a, x.b, x.c, x.d, x.e] := by
  obtain ⟨h1, h2⟩ := sndOf_some h
  obtain ⟨q1, q2, q3⟩ := map_hertz (fs := [x.a, x.b, x.c, x.d, x.e]) h1
  refine ⟨?_, q1, q2⟩
  unfold sndB
  rw [q3, h2]; rfl
theorem sndR_text' {s : ByteArray} {x : Snd} (h : sndR s = some x) : sndT x = s := by
  have := (sndOf_facts h).2.1
  unfold sndT
  rw [← this, partsS_join]
theorem texts_free {fs : List Int} (h : fs.all hzB = true) : ∀ x ∈ fs.map hertzT, (32 : UInt8) ∉ x.data.toList := by
  intro x hx
  obtain ⟨f, hf, rfl⟩ := List.mem_map.1 hx
  have := inB_true (List.all_eq_true.1 h f hf)
  exact hertzT_free (by omega) (by decide) (by decide) (by decide)
theorem sndR_of {x : Snd} (h : sndB x = true) : sndR (sndT x) = some x := by
  unfold sndB at h
  rw [Bool.and_eq_true] at h
  unfold sndR sndT
  rw [parts_joinT 32 _ (by simp) (texts_free h.1), sndOf_ok (map_hertz_text h.1), if_pos h.2]
theorem L5_facts {ws : List ByteArray} {a b c d e : Int} (h : ws.map hertzV = [a, b, c, d, e]) {s : ByteArray} (hp : partsS 32 s = ws) : (sndB ⟨a, b, c, d, e⟩ = true → sndT ⟨a, b, c, d, e⟩ = s → sndR s = some ⟨a, b, c, d, e⟩) ∧ (sndB ⟨a, b, c, d, e⟩ = false → sndR s = none) ∧ (sndT ⟨a, b, c, d, e⟩ ≠ s → sndR s = none) := by
  have key : ∀ y, sndR s = some y → y = ⟨a, b, c, d, e⟩ := fun y hy => by
    have := (sndOf_facts hy).2.2
    rw [hp, h] at this
    cases y
    simp at this
    simp [this]
  refine ⟨fun h1 h2 => by rw [← h2]; exact sndR_of h1, fun h1 => ?_, fun h1 => ?_⟩
  · cases hy : sndR s with
    | none => rfl
    | some y =>
      have h2 := (sndOf_facts hy).1
      rw [key y hy, h1] at h2
      cases h2
  · cases hy : sndR s with
    | none => rfl
    | some y =>
      have h2 := sndR_text' hy
      rw [key y hy] at h2
      exact absurd h2 h1
theorem snd_zero : sndB sndZ = false := by decide
theorem sndV_ok (s : ByteArray) : sndB (sndV s) = (sndR s).isSome := by
  cases h : sndR s with
  | none => rw [(sndV_none h).1]; exact snd_zero
  | some x => rw [(sndV_some h).1]; exact (sndOf_facts h).1
theorem sndB_bd {x : Snd} (h : sndB x = true) : ∀ z ∈ [x.a, x.b, x.c, x.d, x.e], 10000 ≤ z ∧ z ≤ 20000000 := by
  intro z hz
  unfold sndB at h
  rw [Bool.and_eq_true] at h
  exact inB_true (List.all_eq_true.1 h.1 z hz)
/-- a goal -/
structure Gl where
  t : Snd
  tol : Int
  most : Int
def glZ : Gl := ⟨sndZ, 0, 0⟩
def glB (g : Gl) : Bool := sndB g.t && (inB g.tol 0 20000 && inB g.most 0 20)
def glT (g : Gl) : ByteArray := joinT 32 ([g.t.a, g.t.b, g.t.c, g.t.d, g.t.e].map hertzT ++ [decT g.tol, decT g.most])
def glMk (t : Option Snd) (a b : Option Int) : Option Gl := match t, a, b with
  | some t, some a, some b => if inB a 0 20000 && inB b 0 20 then some ⟨t, a, b⟩ else none
  | _, _, _ => none
def glOf (ws : List ByteArray) : Option Gl := match ws with
  | [a, b, c, d, e, f, g] => glMk (sndR (joinT 32 [a, b, c, d, e])) (numS f) (numS g)
  | _ => none
def glR (s : ByteArray) : Option Gl := glOf (partsS 32 s)
def glV (s : ByteArray) : Gl := (glR s).getD glZ
theorem glV_some {s : ByteArray} {x : Gl} (h : glR s = some x) : glV s = x ∧ (glR s).isSome = true := by unfold glV; rw [h]; exact ⟨rfl, rfl⟩
theorem glV_none {s : ByteArray} (h : glR s = none) : glV s = glZ ∧ (glR s).isSome = false := by unfold glV; rw [h]; exact ⟨rfl, rfl⟩
theorem glR_not7 {s : ByteArray} (h : (partsS 32 s).length ≠ 7) : glR s = none := by
  unfold glR glOf
  split
  · rename_i hp; rw [hp] at h; exact absurd rfl h
  · rfl
theorem glR_seven {s a b c d e f g : ByteArray} (h : partsS 32 s = [a, b, c, d, e, f, g]) : glR s = glMk (sndR (joinT 32 [a, b, c, d, e])) (numS f) (numS g) := by unfold glR; rw [h]; rfl
theorem glMk_some {t : Option Snd} {a b : Option Int} {x : Gl} (h : glMk t a b = some x) : t = some x.t ∧ a = some x.tol ∧ b = some x.most ∧ (inB x.tol 0 20000 && inB x.most 0 20) = true := by
  unfold glMk at h
  split at h
  · rename_i t a b
    by_cases hr : (inB a 0 20000 && inB b 0 20) = true
    · rw [if_pos hr] at h
      obtain rfl : (⟨t, a, b⟩ : Gl) = x := by simpa using h
      exact ⟨rfl, rfl, rfl, hr⟩
    · rw [if_neg hr] at h; cases h
  · cases h
theorem glMk_t (a b : Option Int) : glMk none a b = none := rfl
theorem glMk_a (t : Option Snd) (b : Option Int) : glMk t none b = none := by cases t <;> rfl
theorem glMk_b (t : Option Snd) (a : Option Int) : glMk t a none = none := by cases t <;> cases a <;> rfl
theorem glMk_ok (t : Snd) (a b : Int) : glMk (some t) (some a) (some b) = if (inB a 0 20000 && inB b 0 20) = true then some ⟨t, a, b⟩ else none := rfl
theorem glR_of {x : Gl} (h : glB x = true) : glR (glT x) = some x := by
  unfold glB at h
  rw [Bool.and_eq_true] at h
  have hs := h.1
  unfold sndB at hs
  rw [Bool.and_eq_true] at hs
  have h2 := h.2
  rw [Bool.and_eq_true] at h2
  have b1 := inB_true h2.1
  have b2 := inB_true h2.2
  have hp : partsS 32 (glT x) = [x.t.a, x.t.b, x.t.c, x.t.d, x.t.e].map hertzT ++ [decT x.tol, decT x.most] := by
    unfold glT
    refine parts_joinT 32 _ (by simp) fun y hy => ?_
    rcases List.mem_append.1 hy with hy | hy
    · exact texts_free hs.1 y hy
    · have : y = decT x.tol ∨ y = decT x.most := by simpa using hy
      rcases this with rfl | rfl
      · exact decT_free (by decide) (by decide)
      · exact decT_free (by decide) (by decide)
  have e : glR (glT x) = glMk (sndR (sndT x.t)) (numS (decT x.tol)) (numS (decT x.most)) := glR_seven hp
  rw [e, sndR_of h.1, num_decT (by omega) (by omega), num_decT (by omega) (by omega), glMk_ok, if_pos h.2]
theorem gl_facts {s a b c d e f g : ByteArray} (h : partsS 32 s = [a, b, c, d, e, f, g]) {x : Gl} (h1 : x.t = sndV (joinT 32 [a, b, c, d, e])) (h2 : x.tol = numV f) (h3 : x.most = numV g) : (glB x = true → glT x = s → glR s = some x) ∧ (glB x = false → glR s = none) ∧ (glT x ≠ s → glR s = none) := by
  have key : ∀ y, glR s = some y → y = x ∧ glB y = true ∧ glT y = s := fun y hy => by
    rw [glR_seven h] at hy
    obtain ⟨q1, q2, q3, q4⟩ := glMk_some hy
    have ey : y = x := by
      cases y; cases x
      simp only at h1 h2 h3 q1 q2 q3 ⊢
      rw [h1, h2, h3, (sndV_some q1).1, (num_some q2).1, (num_some q3).1]
    refine ⟨ey, ?_, ?_⟩
    · unfold glB; rw [(sndOf_facts q1).1, q4]; rfl
    · have hj := (sndOf_facts q1).2.1
      have e5 : joinT 32 ([y.t.a, y.t.b, y.t.c, y.t.d, y.t.e].map hertzT) = joinT 32 [a, b, c, d, e] := sndR_text' q1
      have e7 := joinT_seven 32 (hertzT y.t.a) (hertzT y.t.b) (hertzT y.t.c) (hertzT y.t.d) (hertzT y.t.e) (decT y.tol) (decT y.most)
      have es := partsS_join 32 s
      rw [h, joinT_seven] at es
      show joinT 32 [hertzT y.t.a, hertzT y.t.b, hertzT y.t.c, hertzT y.t.d, hertzT y.t.e, decT y.tol, decT y.most] = s
      rw [e7, show joinT 32 [hertzT y.t.a, hertzT y.t.b, hertzT y.t.c, hertzT y.t.d, hertzT y.t.e] = joinT 32 [a, b, c, d, e] from e5, (num_text q2).1, (num_text q3).1, es]
  refine ⟨fun q1 q2 => by rw [← q2]; exact glR_of q1, fun q => ?_, fun q => ?_⟩
  · cases hy : glR s with
    | none => rfl
    | some y =>
      obtain ⟨k1, k2, _⟩ := key y hy
      rw [k1, q] at k2
      cases k2
  · cases hy : glR s with
    | none => rfl
    | some y =>
      obtain ⟨k1, _, k2⟩ := key y hy
      rw [k1] at k2
      exact absurd k2 q
theorem glT_text (x : Gl) : glT x = sndT x.t ++ ⟨#[32]⟩ ++ decT x.tol ++ ⟨#[32]⟩ ++ decT x.most := joinT_seven 32 _ _ _ _ _ _ _
theorem join_size5 {s a b c d e f g : ByteArray} (h : partsS 32 s = [a, b, c, d, e, f, g]) : (joinT 32 [a, b, c, d, e]).size ≤ s.size := by
  have es := partsS_join 32 s
  rw [h, joinT_seven] at es
  rw [← es]
  simp only [ByteArray.size_append]
  omega
end Go.Proofs.YtklgkbiobggbiaaDoor
