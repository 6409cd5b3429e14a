/- Contracts and plain facts, joined: DropL, Exist, VMeltI. -/
import Derived.Test.YtnbodmbagendnaaRows
import Derived.Test.YtnbodmbagendnaaZFnExactAddMeltG
namespace Go.Proofs.Ytnbodmbagendnaa
open Go.ChangeShapes Go.WideShapes Go.ChangeAt Go.RowKit Go.Deep Go.Joins
set_option linter.unusedVariables false
set_option maxRecDepth 100000
set_option linter.unusedSimpArgs false
def RisesM (xs : List Melt) : Prop := ∀ i j (_ : i < j) (hj : j < xs.length), ltName xs[i].id xs[j].id = true
theorem risesM_of {xs : List Melt} (h : meltsB xs = true) : RisesM xs := by
  have hA : allK (meltsAt xs) xs.length = true := by
    unfold meltsB at h
    rw [Bool.and_eq_true] at h
    exact h.1
  have step : ∀ k (hk : k + 1 < xs.length), ltName xs[k].id xs[k + 1].id = true := fun k hk => by
    have h1 := allK_true hA (k + 1) hk
    rw [meltsAt_eq hk, Bool.and_eq_true, Bool.and_eq_true] at h1
    have h2 := h1.2.1
    rw [ltPrev_pos hk (by omega)] at h2
    exact h2
  intro i j hij hj
  induction j with
  | zero => omega
  | succ j ih =>
    rcases Nat.lt_or_ge i j with h1 | h1
    · exact ltName_trans (ih h1 (by omega)) (step j hj)
    · obtain rfl : i = j := by omega
      exact step i hj
def idM (xs : List Melt) (a : ByteArray) : Option Nat := xs.findIdx? fun x => strEq x.id a
theorem idM_some {xs : List Melt} {a : ByteArray} {k : Nat} (h : idM xs a = some k) : ∃ hk : k < xs.length, xs[k].id = a := by
  obtain ⟨hk, h1, _⟩ := List.findIdx?_eq_some_iff_getElem.1 h
  exact ⟨hk, strEq_iff.1 h1⟩
theorem idM_none {xs : List Melt} {a : ByteArray} (h : idM xs a = none) (k : Nat) (hk : k < xs.length) : xs[k].id ≠ a := by
  intro e
  have := List.findIdx?_eq_none_iff.1 h xs[k] (List.getElem_mem hk)
  rw [e, strEq_iff.2 rfl] at this
  cases this
theorem risesM_inj {xs : List Melt} (h : RisesM xs) {i j : Nat} (hi : i < xs.length) (hj : j < xs.length) (e : xs[i].id = xs[j].id) : i = j := by
  rcases Nat.lt_trichotomy i j with h1 | h1 | h1
  · have := h i j h1 hj; rw [e, ltName_irrefl] at this; cases this
  · exact h1
  · have := h j i h1 hi; rw [e, ltName_irrefl] at this; cases this
theorem fallsM_of {xs : List Melt} (h : RisesM xs) (t : ByteArray) : Falls (cmpMelt xs t) xs.length := by
  intro a b hab hb hc
  rw [cmpMelt_at hb] at hc
  rw [cmpMelt_at (by omega)]
  rw [cmpS_lt] at *
  rcases Nat.lt_or_ge a b with h1 | h1
  · exact ltName_trans (h a b h1 hb) hc
  · obtain rfl : a = b := by omega
    exact hc
theorem cmpS_gt {a b : ByteArray} (h1 : ¬ cmpS a b < 0) (h2 : cmpS a b ≠ 0) : ltName b a = true :=
  ltName_total (by rw [← Bool.not_eq_true]; exact fun q => h1 (cmpS_lt.2 q)) (fun q => h2 (cmpS_zero.2 q))
theorem meltsB_all {ms : List Melt} (h : meltsB ms = true) : ms.length ≤ 12 ∧ ∀ m ∈ ms, meltB m = true := by
  simp only [meltsB, Bool.and_eq_true, decide_eq_true_eq] at h
  refine ⟨h.2, fun m hm => ?_⟩
  obtain ⟨i, hi, rfl⟩ := List.mem_iff_getElem.1 hm
  have := allK_true h.1 i hi
  rw [meltsAt_eq hi, Bool.and_eq_true] at this
  exact this.1
/-- where the search ends -/
theorem found_idM {xs : List Melt} (h : RisesM xs) {t : ByteArray} {i : Nat} (hf : Found (cmpMelt xs t) xs.length i) :
    (decide (i < xs.length) && decide (cmpMelt xs t i = 0)) = (idM xs t).isSome ∧ (∀ k, idM xs t = some k → i = k) ∧ i ≤ xs.length ∧ (∀ j (hj : j < xs.length), j < i → ltName xs[j].id t = true) ∧ (idM xs t = none → ∀ j (hj : j < xs.length), i ≤ j → ltName t xs[j].id = true) := by
  obtain ⟨hi, hp⟩ := hf
  obtain ⟨h1, h2⟩ := hp (fallsM_of h t)
  have key : ∀ k, idM xs t = some k → i = k := by
    intro k hk
    obtain ⟨hkl, e⟩ := idM_some hk
    have e0 : cmpMelt xs t k = 0 := by rw [cmpMelt_at hkl]; exact cmpS_zero.2 e
    have hik : i ≤ k := by
      rcases Nat.lt_or_ge k i with h3 | h3
      · have := h1 k h3; omega
      · exact h3
    rcases Nat.lt_or_ge i k with h3 | h3
    · have h4 := h2 i (Nat.le_refl _) (by omega)
      rw [cmpMelt_at (by omega)] at h4
      have h5 : cmpS xs[i].id t < 0 := cmpS_lt.2 (by rw [← e]; exact h i k h3 hkl)
      simp only at h4; omega
    · omega
  refine ⟨?_, key, hi, fun j hj hji => ?_, fun hn j hj hij => ?_⟩
  · cases e : idM xs t with
    | none =>
      by_cases hl : i < xs.length
      · have : cmpMelt xs t i ≠ 0 := by
          rw [cmpMelt_at hl]
          exact fun h0 => idM_none e i hl (cmpS_zero.1 h0)
        simp [this]
      · simp [hl]
    | some k =>
      obtain rfl := key k e
      obtain ⟨hl, e2⟩ := idM_some e
      have : cmpMelt xs t i = 0 := by rw [cmpMelt_at hl]; exact cmpS_zero.2 e2
      simp [hl, this]
  · have := h1 j hji
    rw [cmpMelt_at hj] at this
    exact cmpS_lt.1 this
  · have h4 := h2 j hij hj
    rw [cmpMelt_at hj] at h4
    exact cmpS_gt (by simp only at h4 ⊢; omega) (fun h0 => idM_none hn j hj (cmpS_zero.1 h0))
/-- the melts whose id is another -/
def dropF (a : ByteArray) (xs : List Melt) : List Melt := xs.filter fun x => !(strEq x.id a)
def dropS (xs : List Melt) (a : ByteArray) : List Melt × Int := if meltsB xs = true then (if (idM xs a).isSome = true then (dropF a xs, 0) else ([], 3)) else ([], 1)
theorem dropF_no {xs : List Melt} {a : ByteArray} {k : Nat} (hk : k < xs.length) (h : strEq xs[k].id a = true) : dropF a (xs.take (k + 1)) = dropF a (xs.take k) := by
  unfold dropF
  rw [List.take_succ_eq_append_getElem hk, List.filter_append]
  simp [h]
theorem dropF_yes {xs : List Melt} {a : ByteArray} {k : Nat} (hk : k < xs.length) (h : strEq xs[k].id a = false) : dropF a (xs.take (k + 1)) = dropF a (xs.take k) ++ [xs[k]] := by
  unfold dropF
  rw [List.take_succ_eq_append_getElem hk, List.filter_append]
  simp [h]
theorem dropF_len (a : ByteArray) (xs : List Melt) (k : Nat) : (dropF a (xs.take k)).length ≤ k := by
  have h1 := List.length_filter_le (fun x : Melt => !(strEq x.id a)) (xs.take k)
  rw [List.length_take] at h1
  unfold dropF
  omega
theorem dropF_all {xs : List Melt} {a : ByteArray} (h : ∀ x ∈ xs, strEq x.id a = false) : dropF a xs = xs := by
  unfold dropF
  rw [List.filter_eq_self]
  exact fun x hx => by rw [h x hx]; rfl
theorem dropF_none {xs : List Melt} {a : ByteArray} (h : idM xs a = none) : dropF a xs = xs := dropF_all fun x hx => by
  obtain ⟨i, hi, rfl⟩ := List.mem_iff_getElem.1 hx
  rw [← Bool.not_eq_true]
  exact fun q => idM_none h i hi (strEq_iff.1 q)
theorem dropF_some {xs : List Melt} (hr : RisesM xs) {a : ByteArray} {k : Nat} (h : idM xs a = some k) : dropF a xs = xs.eraseIdx k ∧ k < xs.length := by
  obtain ⟨hk, he⟩ := idM_some h
  refine ⟨?_, hk⟩
  have e : xs = xs.take k ++ xs[k] :: xs.drop (k + 1) := by rw [← List.drop_eq_getElem_cons hk, List.take_append_drop]
  have z1 : dropF a (xs.take k) = xs.take k := dropF_all fun x hx => by
    obtain ⟨i, hi, rfl⟩ := List.mem_take_iff_getElem.1 hx
    rw [← Bool.not_eq_true]
    intro q
    have := risesM_inj hr (i := i) (j := k) (by omega) hk (by rw [strEq_iff.1 q, he])
    omega
  have z2 : dropF a (xs.drop (k + 1)) = xs.drop (k + 1) := dropF_all fun x hx => by
    obtain ⟨i, hi, rfl⟩ := List.mem_drop_iff_getElem.1 hx
    rw [← Bool.not_eq_true]
    intro q
    have := risesM_inj hr (i := k + 1 + i) (j := k) (by omega) hk (by rw [strEq_iff.1 q, he])
    omega
  have e2 : dropF a (xs.take k ++ xs[k] :: xs.drop (k + 1)) = dropF a (xs.take k) ++ dropF a (xs.drop (k + 1)) := by
    unfold dropF
    rw [List.filter_append, List.filter_cons, if_neg (by rw [strEq_iff.2 he]; simp)]
  rw [List.eraseIdx_eq_take_drop_succ]
  conv => lhs; rw [e]
  rw [e2, z1, z2]
theorem dropF_size {xs : List Melt} (hr : RisesM xs) (a : ByteArray) : ((dropF a xs).length == xs.length) = !(idM xs a).isSome := by
  cases h : idM xs a with
  | none => rw [dropF_none h]; simp
  | some k =>
    obtain ⟨e, hk⟩ := dropF_some hr h
    rw [e, List.length_eraseIdx_of_lt hk]
    simp; omega
theorem drop_bad {xs : List Melt} {a : ByteArray} (h : meltsB xs = false) : dropS xs a = ([], 1) := by unfold dropS; rw [h]; rfl
theorem drop_no {xs : List Melt} {a : ByteArray} (h : meltsB xs = true) (h2 : (idM xs a).isSome = false) : dropS xs a = ([], 3) := by unfold dropS; rw [h, h2]; rfl
theorem drop_yes {xs : List Melt} {a : ByteArray} (h : meltsB xs = true) (h2 : (idM xs a).isSome = true) : dropS xs a = (dropF a xs, 0) := by unfold dropS; rw [h, h2]; rfl
/-- what a result says is short, and each melt of it names an ingot -/
theorem dropS_fine (xs : List Melt) (a : ByteArray) : (dropS xs a).1.length ≤ 12 ∧ ∀ x ∈ (dropS xs a).1, 1 ≤ x.ingots.length ∧ x.ingots.length ≤ 16 := by
  unfold dropS
  cases hM : meltsB xs with
  | false => exact ⟨by simp, fun x hx => by simp at hx⟩
  | true =>
    obtain ⟨h12, hall⟩ := meltsB_all hM
    cases hs : (idM xs a).isSome with
    | false => exact ⟨by simp, fun x hx => by simp at hx⟩
    | true =>
      simp only [if_true]
      have := List.length_filter_le (fun x : Melt => !(strEq x.id a)) xs
      refine ⟨by unfold dropF; omega, fun x hx => ?_⟩
      have hb := meltB_parts (hall x (List.mem_filter.1 hx).1)
      exact ⟨hb.2.1, hb.2.2.1⟩
theorem said_lens {ys xs : List Melt} (h : ys.map Melt.said = xs.map Melt.said) (p : Nat → Prop) (hp : ∀ x ∈ xs, p x.ingots.length) : ∀ y ∈ ys, p y.ingots.length := fun y hy => by
  obtain ⟨x, hx, e⟩ := said_mem h hy
  rw [← e]; exact hp x hx
end Go.Proofs.Ytnbodmbagendnaa
namespace Go.Proofs.Ytnbodmbagendnaa
open Go.ChangeShapes Go.WideShapes Go.ChangeAt Go.RowKit Go.Deep Go.Joins
set_option linter.unusedVariables false
set_option maxRecDepth 100000
set_option linter.unusedSimpArgs false
def noneB (xs : List Ingot) (m : Melt) : Bool := !(chosenL xs m.ingots).isSome
def existB (xs : List Ingot) (ms : List Melt) : Bool := !(ms.any (noneB xs))
set_option maxHeartbeats 1000000 in
theorem impl_exist1 (x : Melt) (lo : Option Addr) (lc : Nat) (g : Nat) (v : Value) (xs : List Ingot) (w : World) (g0 : w.cell? ⟨g, 0, none⟩ = some v) (hg : g < w.heap.size) (h : Rd w.heap.size w v 5 xs.length (xs.flatMap Ingot.put)) (hn : xs.length ≤ 1048576) (hr : Rises xs)
    (h2 : Rd w.heap.size w (.slice lo x.ingots.length lc) 1 x.ingots.length (x.ingots.flatMap putStr)) (hn2 : x.ingots.length ≤ 1048576) :
    Calls Try.prog 129 #[.agg #[.string x.id, .slice lo x.ingots.length lc, .int .i64 x.mass], .pointer (some ⟨g, 0, none⟩)] w fun e w' => e = .returned (.bool (noneB xs x)) ∧ Below w.heap.size w w' := by
  unfold noneB
  obtain ⟨vo, vc, rfl⟩ := h.form
  have H1 := Lib.hid h; clear h
  have H2 := Lib.hid h2; clear h2
  have HR := Lib.hid hr; clear hr
  go_enter Try.func129, Try.ntmps129
  go_wp2_with fail
  refine (impl_choiceOf _ _ xs x lo lc (by exact H1.out.up (by (repeat' (first | (with_reducible exact Below.refl _ _) | (with_reducible assumption) | (with_reducible refine below_dn ?_ _) | (with_reducible refine Below.drew ?_) | (with_reducible refine Below.alloc ?_ ?_ _) | (with_reducible refine Below.setCell ?_ ?_ _) | go_size)))) hn HR.out (by exact H2.out.up (by (repeat' (first | (with_reducible exact Below.refl _ _) | (with_reducible assumption) | (with_reducible refine below_dn ?_ _) | (with_reducible refine Below.drew ?_) | (with_reducible refine Below.alloc ?_ ?_ _) | (with_reducible refine Below.setCell ?_ ?_ _) | go_size)))) hn2).mono ?_; rintro e w1 ⟨⟨u, rfl, _⟩, b1⟩
  have HB1 := Lib.hid (show Below w.heap.size w w1 from Below.trans (by (repeat' (first | (with_reducible exact Below.refl _ _) | (with_reducible assumption) | (with_reducible refine below_dn ?_ _) | (with_reducible refine Below.drew ?_) | (with_reducible refine Below.alloc ?_ ?_ _) | (with_reducible refine Below.setCell ?_ ?_ _) | go_size))) (b1.mono (by simp <;> omega))); clear b1
  cases hS : (chosenL xs x.ingots).isSome
  all_goals
    have HS := Lib.hid hS; clear hS
    go_wp2_with fail
    go_ret
    exact ⟨by rw [HS.out]; rfl, HB1.out⟩

set_option maxHeartbeats 1000000 in
theorem IndexFunc_exist1 (g : Nat) (w : World) (v : Value) (xs : List Melt) (p : Melt → Bool) (h : RdM w.heap.size w v xs) (hn : xs.length ≤ 1048576)
    (H : ∀ (wr : World) (hb : Below w.heap.size w wr) (k : Nat) (hk : k < xs.length) (lo : Option Addr) (lc : Nat) (hr : Rd wr.heap.size wr (.slice lo xs[k].ingots.length lc) 1 xs[k].ingots.length (xs[k].ingots.flatMap putStr)), Calls Try.prog 129 #[.agg #[.string xs[k].id, .slice lo xs[k].ingots.length lc, .int .i64 xs[k].mass], .pointer (some ⟨g, 0, none⟩)] wr fun e w' => e = .returned (.bool (p xs[k])) ∧ Below wr.heap.size wr w') :
    Calls Try.prog 131 #[v, .func (.func 129) #[] #[.pointer (some ⟨g, 0, none⟩)]] w fun e w' => (∃ r : Int, e = .returned (.int .i64 r) ∧ decide (0 ≤ r) = xs.any p) ∧ Below w.heap.size w w' := by
  obtain ⟨ao, cap, rfl, hcap, hmax, hsome⟩ := h
  go_enter Try.func131, Try.ntmps131
  have HH := Lib.hid H; clear H
  go_wp2
  go_loopw [8] (fun i wr => ∃ (k : Nat), k ≤ xs.length ∧ i = .int .i64 k ∧ (xs.take k).any p = false ∧ Below w.heap.size w wr) (fun i _ => xs.length - (intOf i).toNat)
  case atStart => exact ⟨0, Nat.zero_le _, rfl, rfl, Below.refl _ _⟩
  case round =>
    obtain ⟨k, hk, rfl, hall, hb⟩ := hrel
    have Hall := Lib.hid hall; clear hall
    by_cases hlt : k < xs.length
    · obtain ⟨b, off, rfl, hbB, hc⟩ := hsome (by omega)
      obtain ⟨l, p0, p1, p2, hr⟩ := hc k hlt
      obtain ⟨lo, lc, rfl⟩ := hr.form
      have c0 := (hb.cell (p := ⟨b, off + k * 3, none⟩) hbB).trans p0
      have c1 := (hb.cell (p := ⟨b, off + k * 3 + 1, none⟩) hbB).trans p1
      have c2 := (hb.cell (p := ⟨b, off + k * 3 + 2, none⟩) hbB).trans p2
      have hbr : b < wr.heap.size := Nat.lt_of_lt_of_le hbB hb.size
      have HC := Lib.hid (HH.out wr hb k hlt lo lc (hr.up hb)); clear HH
      have HB := Lib.hid hb
      clear hc hsome hb p0 p1 p2 hr
      cases hO : p xs[k]
      all_goals rw [hO] at HC
      · have e : Hid ((xs.take (k + 1)).any p = false) := (by rw [any_take xs k hlt, Hall.out, hO]; rfl : (xs.take (k + 1)).any p = false)
        clear hO
        go_wp2_with fail
        go_at_call 129
        refine HC.out.mono ?_; rintro e1 w1 ⟨rfl, b1⟩
        have HB1 := Lib.hid (HB.out.trans (b1.mono HB.out.size)); clear b1 HB
        go_wp2_with fail
        go_roundw
        case rel => exact ⟨k + 1, by omega, by go_num, e.out, HB1.out⟩
        case measure => simp [intOf]; omega
      · have e : Hid (xs.any p = true) := (any_at xs k hlt hO : xs.any p = true)
        clear hO
        go_wp2_with fail
        go_at_call 129
        refine HC.out.mono ?_; rintro e1 w1 ⟨rfl, b1⟩
        have HB1 := Lib.hid (HB.out.trans (b1.mono HB.out.size)); clear b1 HB
        go_wp2_with fail
        go_ret
        exact ⟨⟨_, rfl, by rw [e.out]; simp⟩, HB1.out⟩
    · have e : Hid (xs.any p = false) := (by
        have := Hall.out
        rwa [List.take_of_length_le (by omega)] at this : xs.any p = false)
      clear HH
      go_wp2
      go_ret
      exact ⟨⟨_, rfl, by rw [e.out]; rfl⟩, hb⟩

theorem ContainsFunc_exist1 (g : Nat) (w : World) (v : Value) (xs : List Melt) (p : Melt → Bool) (h : RdM w.heap.size w v xs) (hn : xs.length ≤ 1048576)
    (H : ∀ (wr : World) (hb : Below w.heap.size w wr) (k : Nat) (hk : k < xs.length) (lo : Option Addr) (lc : Nat) (hr : Rd wr.heap.size wr (.slice lo xs[k].ingots.length lc) 1 xs[k].ingots.length (xs[k].ingots.flatMap putStr)), Calls Try.prog 129 #[.agg #[.string xs[k].id, .slice lo xs[k].ingots.length lc, .int .i64 xs[k].mass], .pointer (some ⟨g, 0, none⟩)] wr fun e w' => e = .returned (.bool (p xs[k])) ∧ Below wr.heap.size wr w') :
    Calls Try.prog 82 #[v, .func (.func 129) #[] #[.pointer (some ⟨g, 0, none⟩)]] w fun e w' => e = .returned (.bool (xs.any p)) ∧ Below w.heap.size w w' := by
  have H2 := Lib.hid (IndexFunc_exist1 g w v xs p h hn H)
  clear h H
  go_enter Try.func82, Try.ntmps82
  go_wp2_with fail
  refine H2.out.mono ?_; rintro e w1 ⟨⟨r, rfl, hr⟩, b1⟩
  have Hr := Lib.hid hr; clear hr
  go_wp2_with fail
  go_ret
  exact ⟨by rw [← Hr.out]; rfl, b1⟩

set_option maxHeartbeats 1000000 in
theorem impl_exist (w : World) (v u : Value) (xs : List Ingot) (ms : List Melt) (h : Rd w.heap.size w v 5 xs.length (xs.flatMap Ingot.put)) (hn : xs.length ≤ 1048576) (hr : Rises xs) (h2 : RdM w.heap.size w u ms) (hn2 : ms.length ≤ 1048576) (hin : ∀ m ∈ ms, m.ingots.length ≤ 1048576) :
    Calls Try.prog 80 #[v, u] w fun e w' => e = .returned (.bool (existB xs ms)) ∧ Below w.heap.size w w' := by
  unfold existB
  have hM := Lib.hid (Own.new w 60 [v])
  obtain ⟨vo, vc, rfl⟩ := h.form
  have H1 := Lib.hid h; clear h
  have H2 := Lib.hid h2
  obtain ⟨uo, uc, rfl, _⟩ := h2
  have HR := Lib.hid hr; clear hr
  have Hin := Lib.hid hin; clear hin
  go_enter Try.func80, Try.ntmps80
  go_wp2_with fail
  refine (ContainsFunc_exist1 w.heap.size _ _ ms (noneB xs) (by exact H2.out.up (by (repeat' (first | (with_reducible exact Below.refl _ _) | (with_reducible assumption) | (with_reducible refine below_dn ?_ _) | (with_reducible refine Below.drew ?_) | (with_reducible refine Below.alloc ?_ ?_ _) | (with_reducible refine Below.setCell ?_ ?_ _) | go_size)))) hn2 ?_).mono ?_
  · intro wr hb k hk lo lc hr
    have hO := hM.out.below hb hM.out.lt
    exact impl_exist1 ms[k] lo lc _ _ xs wr (hO.cell 0) hO.lt (by exact H1.out.up (Below.trans (by (repeat' (first | (with_reducible exact Below.refl _ _) | (with_reducible assumption) | (with_reducible refine below_dn ?_ _) | (with_reducible refine Below.drew ?_) | (with_reducible refine Below.alloc ?_ ?_ _) | (with_reducible refine Below.setCell ?_ ?_ _) | go_size))) (hb.mono (by simp <;> omega)))) hn HR.out hr (Hin.out _ (List.getElem_mem hk))
  rintro e w1 ⟨rfl, b1⟩
  have HB1 := Lib.hid (show Below w.heap.size w w1 from Below.trans (by (repeat' (first | (with_reducible exact Below.refl _ _) | (with_reducible assumption) | (with_reducible refine below_dn ?_ _) | (with_reducible refine Below.drew ?_) | (with_reducible refine Below.alloc ?_ ?_ _) | (with_reducible refine Below.setCell ?_ ?_ _) | go_size))) (b1.mono (by simp <;> omega))); clear b1
  go_wp2_with fail
  go_ret
  exact ⟨rfl, HB1.out⟩
end Go.Proofs.Ytnbodmbagendnaa
namespace Go.Proofs.Ytnbodmbagendnaa
open Go.ChangeShapes Go.WideShapes Go.ChangeAt Go.RowKit Go.Deep Go.Joins
set_option linter.unusedVariables false
set_option maxRecDepth 100000
set_option linter.unusedSimpArgs false
set_option maxHeartbeats 1000000 in
theorem impl_areNames (w : World) (v : Value) (xs : List ByteArray) (h : Rd w.heap.size w v 1 xs.length (xs.flatMap putStr)) (hn : xs.length ≤ 1048576) (hok : ∀ s ∈ xs, s.size ≤ maxLen) :
    Calls Try.prog 128 #[v] w fun e w' => e = .returned (.bool (allK (stepB nameB ltName xs) xs.length)) ∧ Below w.heap.size w w' := by
  obtain ⟨hL, ao, cap, rfl, hcap, hmax, hnil, hsome⟩ := h
  have Hok := Lib.hid hok; clear hok
  go_enter Try.func128, Try.ntmps128
  go_wp2
  go_loopw [7] (fun i wr => ∃ (k : Nat), k ≤ xs.length ∧ i = .int .i64 k ∧ allK (stepB nameB ltName xs) k = true ∧ Below w.heap.size w wr) (fun i _ => xs.length - (intOf i).toNat)
  case atStart => exact ⟨0, Nat.zero_le _, rfl, rfl, Below.refl _ _⟩
  case round =>
    obtain ⟨k, hk, rfl, hall, hb⟩ := hrel
    have Hall := Lib.hid hall; clear hall
    by_cases hlt : k < xs.length
    · obtain ⟨b, off, rfl, hbB, hc⟩ := hsome (by omega)
      have c0 : wr.cell? ⟨b, off + k, none⟩ = some (.string xs[k]) := by
        rw [hb.cell (p := ⟨b, off + k, none⟩) hbB, hc k (by omega), putStr_get xs k hlt]
      have hbr : b < wr.heap.size := Nat.lt_of_lt_of_le hbB hb.size
      have hok : xs[k].size ≤ maxLen := Hok.out _ (List.getElem_mem hlt)
      have HK := Lib.hid hok; clear hok
      have HS := Lib.hid (allK_succ (stepB nameB ltName xs) k)
      have HF := Lib.hid (allK_false (stepB nameB ltName xs) xs.length k hlt)
      cases hO : nameB xs[k]
      · have e : Hid (allK (stepB nameB ltName xs) xs.length = false) := (HF.out (stepB_no hlt hO) : allK (stepB nameB ltName xs) xs.length = false)
        have HB := Lib.hid hb
        clear hc hsome hnil hb
        go_wp2_with fail
        refine (impl_IsName_is _ _ HK.out hO).mono ?_; rintro e1 w1 ⟨rfl, b1⟩
        have HB1 := Lib.hid (HB.out.trans (b1.mono HB.out.size)); clear b1 HB
        go_wp2_with fail
        go_ret
        exact ⟨by rw [e.out]; rfl, HB1.out⟩
      by_cases hk0 : k = 0
      · have e : Hid (allK (stepB nameB ltName xs) (k + 1) = true) := (by subst hk0; rw [HS.out, stepB_zero hlt hO]; rfl : allK (stepB nameB ltName xs) (k + 1) = true)
        have hz : decide (0 < k) = false := decide_eq_false (by omega)
        have HB := Lib.hid hb
        clear hc hsome hnil hb hk0
        go_wp2_with fail
        refine (impl_IsName_is _ _ HK.out hO).mono ?_; rintro e1 w1 ⟨rfl, b1⟩
        have HB1 := Lib.hid (HB.out.trans (b1.mono HB.out.size)); clear b1 HB
        go_wp2_with fail
        go_roundw
        case rel => exact ⟨k + 1, by omega, by go_num, e.out, HB1.out⟩
        case measure => simp [intOf]; omega
      · have hpos : 0 < k := by omega
        have hz : decide (0 < k) = true := decide_eq_true (by omega)
        have p0 : wr.cell? ⟨b, off + (k - 1), none⟩ = some (.string xs[k - 1]) := by
          rw [hb.cell (p := ⟨b, off + (k - 1), none⟩) hbB, hc (k - 1) (by omega), putStr_get xs (k - 1) (by omega)]
        cases hT : ltName xs[k - 1] xs[k]
        · have e : Hid (allK (stepB nameB ltName xs) xs.length = false) := (HF.out (stepB_lt hlt hpos hO hT) : allK (stepB nameB ltName xs) xs.length = false)
          have t1 : (Op.bytesLess xs[k].toList xs[k - 1].toList || xs[k].toList == xs[k - 1].toList) = true := ltName_impl_f hT
          have HB := Lib.hid hb
          clear hc hsome hnil hb hT
          go_wp2_with fail
          refine (impl_IsName_is _ _ HK.out hO).mono ?_; rintro e1 w1 ⟨rfl, b1⟩
          have p1 : w1.cell? ⟨b, off + (k - 1), none⟩ = some (.string xs[k - 1]) := (b1.cell (p := ⟨b, off + (k - 1), none⟩) hbr).trans p0
          have HB1 := Lib.hid (HB.out.trans (b1.mono HB.out.size)); clear b1 HB p0 c0
          go_wp2_with fail
          go_ret
          exact ⟨by rw [e.out]; rfl, HB1.out⟩
        · have e : Hid (allK (stepB nameB ltName xs) (k + 1) = true) := (by rw [HS.out, Hall.out, stepB_yes hlt hpos hO hT]; rfl : allK (stepB nameB ltName xs) (k + 1) = true)
          have t1 : (Op.bytesLess xs[k].toList xs[k - 1].toList || xs[k].toList == xs[k - 1].toList) = false := ltName_impl_t hT
          have HB := Lib.hid hb
          clear hc hsome hnil hb hT
          go_wp2_with fail
          refine (impl_IsName_is _ _ HK.out hO).mono ?_; rintro e1 w1 ⟨rfl, b1⟩
          have p1 : w1.cell? ⟨b, off + (k - 1), none⟩ = some (.string xs[k - 1]) := (b1.cell (p := ⟨b, off + (k - 1), none⟩) hbr).trans p0
          have HB1 := Lib.hid (HB.out.trans (b1.mono HB.out.size)); clear b1 HB p0 c0
          go_wp2_with fail
          go_roundw
          case rel => exact ⟨k + 1, by omega, by go_num, e.out, HB1.out⟩
          case measure => simp [intOf]; omega
    · have e : Hid (allK (stepB nameB ltName xs) xs.length = true) := (by
        obtain rfl : k = xs.length := by omega
        exact Hall.out : allK (stepB nameB ltName xs) xs.length = true)
      go_wp2
      go_ret
      exact ⟨by rw [e.out]; rfl, hb⟩

theorem impl_areNames_is {b : Bool} (w : World) (v : Value) (xs : List ByteArray) (h : Rd w.heap.size w v 1 xs.length (xs.flatMap putStr)) (hn : xs.length ≤ 1048576) (hok : ∀ s ∈ xs, s.size ≤ maxLen) (hb : allK (stepB nameB ltName xs) xs.length = b) :
    Calls Try.prog 128 #[v] w fun e w' => e = .returned (.bool b) ∧ Below w.heap.size w w' := by
  subst hb; exact impl_areNames w v xs h hn hok

set_option maxHeartbeats 1000000 in
theorem impl_ValidMelt (x : Melt) (w : World) (hx : x.ok w) (hn : x.ingots.length ≤ 1048576) :
    Calls Try.prog 79 #[.agg #[.string x.id, x.list, .int .i64 x.mass]] w fun e w' => e = .returned (.bool (meltB x)) ∧ Below w.heap.size w w' := by
  obtain ⟨hi, ⟨hr, hl, hs⟩, _⟩ := hx
  have Hi := Lib.hid hi; clear hi
  have HR := Lib.hid hr
  obtain ⟨hL, ao, cap, hlist, hcap, hmax, hnil, hsome⟩ := hr
  rw [hlist] at HR
  rw [hlist]
  clear hlist hnil hsome
  have Hok := Lib.hid hs; clear hs
  unfold meltB
  cases hN : nameB x.id
  case false =>
    go_enter Try.func79, Try.ntmps79
    go_wp2_with fail
    refine (impl_IsName_is _ _ Hi.out (by assumption)).mono ?_; rintro e w1 ⟨rfl, b1⟩
    go_wp2_with fail
    go_ret
    exact ⟨rfl, Below.trans (by (repeat' (first | (with_reducible exact Below.refl _ _) | (with_reducible assumption) | (with_reducible refine below_dn ?_ _) | (with_reducible refine Below.drew ?_) | (with_reducible refine Below.alloc ?_ ?_ _) | (with_reducible refine Below.setCell ?_ ?_ _) | go_size))) (b1.mono (by simp))⟩
  by_cases hz1 : 1 ≤ x.ingots.length
  case neg =>
    have t1 : decide ((1 : Int) ≤ x.ingots.length) = false := decide_eq_false (by omega)
    have e0 : Hid (decide (1 ≤ x.ingots.length) = false) := (decide_eq_false hz1 : decide (1 ≤ x.ingots.length) = false)
    go_enter Try.func79, Try.ntmps79
    go_wp2_with fail
    refine (impl_IsName_is _ _ Hi.out (by assumption)).mono ?_; rintro e w1 ⟨rfl, b1⟩
    obtain ⟨hc, hf⟩ := bcell b1
    go_wp2_with fail
    go_ret
    exact ⟨by rw [e0.out]; rfl, Below.trans (by (repeat' (first | (with_reducible exact Below.refl _ _) | (with_reducible assumption) | (with_reducible refine below_dn ?_ _) | (with_reducible refine Below.drew ?_) | (with_reducible refine Below.alloc ?_ ?_ _) | (with_reducible refine Below.setCell ?_ ?_ _) | go_size))) (b1.mono (by simp))⟩
  by_cases hz2 : x.ingots.length ≤ 16
  case neg =>
    have t2 : decide ((x.ingots.length : Int) ≤ 16) = false := decide_eq_false (by omega)
    have e0 : Hid (decide (x.ingots.length ≤ 16) = false) := (decide_eq_false hz2 : decide (x.ingots.length ≤ 16) = false)
    go_enter Try.func79, Try.ntmps79
    go_wp2_with fail
    refine (impl_IsName_is _ _ Hi.out (by assumption)).mono ?_; rintro e w1 ⟨rfl, b1⟩
    obtain ⟨hc, hf⟩ := bcell b1
    go_wp2_with fail
    go_ret
    exact ⟨by rw [e0.out]; simp, Below.trans (by (repeat' (first | (with_reducible exact Below.refl _ _) | (with_reducible assumption) | (with_reducible refine below_dn ?_ _) | (with_reducible refine Below.drew ?_) | (with_reducible refine Below.alloc ?_ ?_ _) | (with_reducible refine Below.setCell ?_ ?_ _) | go_size))) (b1.mono (by simp))⟩
  have e1 : Hid (decide (1 ≤ x.ingots.length) = true) := (decide_eq_true hz1 : decide (1 ≤ x.ingots.length) = true)
  have e2 : Hid (decide (x.ingots.length ≤ 16) = true) := (decide_eq_true hz2 : decide (x.ingots.length ≤ 16) = true)
  cases hA : allK (stepB nameB ltName x.ingots) x.ingots.length
  case false =>
    go_enter Try.func79, Try.ntmps79
    go_wp2_with fail
    refine (impl_IsName_is _ _ Hi.out (by assumption)).mono ?_; rintro e w1 ⟨rfl, b1⟩
    have HB := Lib.hid b1
    obtain ⟨hc, hf⟩ := bcell b1
    go_wp2_with fail
    clear hc hf b1
    refine (impl_areNames_is _ _ x.ingots (by exact HR.out.up (Below.trans (by (repeat' (first | (with_reducible exact Below.refl _ _) | (with_reducible assumption) | (with_reducible refine below_dn ?_ _) | (with_reducible refine Below.drew ?_) | (with_reducible refine Below.alloc ?_ ?_ _) | (with_reducible refine Below.setCell ?_ ?_ _) | go_size))) (HB.out.mono (by simp)))) hn Hok.out hA).mono ?_; rintro e w2 ⟨rfl, b2⟩
    have B2 := bnext HB.out b2; clear b2 HB
    go_wp2_with fail
    go_ret
    exact ⟨by rw [e1.out, e2.out]; rfl, Below.trans (by (repeat' (first | (with_reducible exact Below.refl _ _) | (with_reducible assumption) | (with_reducible refine below_dn ?_ _) | (with_reducible refine Below.drew ?_) | (with_reducible refine Below.alloc ?_ ?_ _) | (with_reducible refine Below.setCell ?_ ?_ _) | go_size))) (B2.mono (by simp))⟩
  cases hM : inB x.mass 1 320000000
  all_goals
    go_enter Try.func79, Try.ntmps79
    go_wp2_with fail
    refine (impl_IsName_is _ _ Hi.out (by assumption)).mono ?_; rintro e w1 ⟨rfl, b1⟩
    have HB := Lib.hid b1
    obtain ⟨hc, hf⟩ := bcell b1
    go_wp2_with fail
    clear hc hf b1
    refine (impl_areNames_is _ _ x.ingots (by exact HR.out.up (Below.trans (by (repeat' (first | (with_reducible exact Below.refl _ _) | (with_reducible assumption) | (with_reducible refine below_dn ?_ _) | (with_reducible refine Below.drew ?_) | (with_reducible refine Below.alloc ?_ ?_ _) | (with_reducible refine Below.setCell ?_ ?_ _) | go_size))) (HB.out.mono (by simp)))) hn Hok.out hA).mono ?_; rintro e w2 ⟨rfl, b2⟩
    have B2 := bnext HB.out b2; clear b2 HB
    have HB2 := Lib.hid B2
    obtain ⟨hc, hf⟩ := bcell B2
    clear B2
    go_wp2_with (go_at_call 56; refine (within_is _ _ _ _ (by assumption)).mono ?_; rintro e w' ⟨rfl, rfl⟩)
    go_ret
    exact ⟨by rw [e1.out, e2.out]; rfl, Below.trans (by (repeat' (first | (with_reducible exact Below.refl _ _) | (with_reducible assumption) | (with_reducible refine below_dn ?_ _) | (with_reducible refine Below.drew ?_) | (with_reducible refine Below.alloc ?_ ?_ _) | (with_reducible refine Below.setCell ?_ ?_ _) | go_size))) (HB2.out.mono (by simp))⟩

theorem impl_ValidMelt_is {b : Bool} (x : Melt) (w : World) (hx : x.ok w) (hn : x.ingots.length ≤ 1048576) (hb : meltB x = b) :
    Calls Try.prog 79 #[.agg #[.string x.id, x.list, .int .i64 x.mass]] w fun e w' => e = .returned (.bool b) ∧ Below w.heap.size w w' := by
  subst hb; exact impl_ValidMelt x w hx hn
end Go.Proofs.Ytnbodmbagendnaa
