/- Contracts and plain facts, joined: DropL, OwnK, OwnMelt, VMeltI. -/
import Derived.Test.YtklgkbiobggbiaaRows
import Derived.Test.YtklgkbiobggbiaaZFnExactDropMeltG
import Derived.Deep.RegionLaw
namespace Go.Proofs.Ytklgkbiobggbiaa
open Go.ChangeShapes Go.WideShapes Go.ChangeAt Go.RowKit Go.Deep Go.Joins
set_option linter.unusedVariables false
set_option maxRecDepth 100000
set_option linter.unusedSimpArgs false
def RisesM (xs : List Melt) : Prop := ∀ i j (_ : i < j) (hj : j < xs.length), ltName xs[i].id xs[j].id = true
theorem risesM_of {xs : List Melt} (h : meltsB xs = true) : RisesM xs := by
  have hA : allK (meltsAt xs) xs.length = true := by
    unfold meltsB at h
    rw [Bool.and_eq_true] at h
    exact h.1
  have step : ∀ k (hk : k + 1 < xs.length), ltName xs[k].id xs[k + 1].id = true := fun k hk => by
    have h1 := allK_true hA (k + 1) hk
    rw [meltsAt_eq hk, Bool.and_eq_true, Bool.and_eq_true] at h1
    have h2 := h1.2.1
    rw [ltPrev_pos hk (by omega)] at h2
    exact h2
  intro i j hij hj
  induction j with
  | zero => omega
  | succ j ih =>
    rcases Nat.lt_or_ge i j with h1 | h1
    · exact ltName_trans (ih h1 (by omega)) (step j hj)
    · obtain rfl : i = j := by omega
      exact step i hj
def idM (xs : List Melt) (a : ByteArray) : Option Nat := xs.findIdx? fun x => strEq x.id a
theorem idM_some {xs : List Melt} {a : ByteArray} {k : Nat} (h : idM xs a = some k) : ∃ hk : k < xs.length, xs[k].id = a := by
  obtain ⟨hk, h1, _⟩ := List.findIdx?_eq_some_iff_getElem.1 h
  exact ⟨hk, strEq_iff.1 h1⟩
theorem idM_none {xs : List Melt} {a : ByteArray} (h : idM xs a = none) (k : Nat) (hk : k < xs.length) : xs[k].id ≠ a := by
  intro e
  have := List.findIdx?_eq_none_iff.1 h xs[k] (List.getElem_mem hk)
  rw [e, strEq_iff.2 rfl] at this
  cases this
theorem risesM_inj {xs : List Melt} (h : RisesM xs) {i j : Nat} (hi : i < xs.length) (hj : j < xs.length) (e : xs[i].id = xs[j].id) : i = j := by
  rcases Nat.lt_trichotomy i j with h1 | h1 | h1
  · have := h i j h1 hj; rw [e, ltName_irrefl] at this; cases this
  · exact h1
  · have := h j i h1 hi; rw [e, ltName_irrefl] at this; cases this
theorem fallsM_of {xs : List Melt} (h : RisesM xs) (t : ByteArray) : Falls (cmpMelt xs t) xs.length := by
  intro a b hab hb hc
  rw [cmpMelt_at hb] at hc
  rw [cmpMelt_at (by omega)]
  rw [cmpS_lt] at *
  rcases Nat.lt_or_ge a b with h1 | h1
  · exact ltName_trans (h a b h1 hb) hc
  · obtain rfl : a = b := by omega
    exact hc
theorem cmpS_gt {a b : ByteArray} (h1 : ¬ cmpS a b < 0) (h2 : cmpS a b ≠ 0) : ltName b a = true :=
  ltName_total (by rw [← Bool.not_eq_true]; exact fun q => h1 (cmpS_lt.2 q)) (fun q => h2 (cmpS_zero.2 q))
theorem meltsB_all {ms : List Melt} (h : meltsB ms = true) : ms.length ≤ 12 ∧ ∀ m ∈ ms, meltB m = true := by
  simp only [meltsB, Bool.and_eq_true, decide_eq_true_eq] at h
  refine ⟨h.2, fun m hm => ?_⟩
  obtain ⟨i, hi, rfl⟩ := List.mem_iff_getElem.1 hm
  have := allK_true h.1 i hi
  rw [meltsAt_eq hi, Bool.and_eq_true] at this
  exact this.1
/-- where the search ends -/
theorem found_idM {xs : List Melt} (h : RisesM xs) {t : ByteArray} {i : Nat} (hf : Found (cmpMelt xs t) xs.length i) :
    (decide (i < xs.length) && decide (cmpMelt xs t i = 0)) = (idM xs t).isSome ∧ (∀ k, idM xs t = some k → i = k) ∧ i ≤ xs.length ∧ (∀ j (hj : j < xs.length), j < i → ltName xs[j].id t = true) ∧ (idM xs t = none → ∀ j (hj : j < xs.length), i ≤ j → ltName t xs[j].id = true) := by
  obtain ⟨hi, hp⟩ := hf
  obtain ⟨h1, h2⟩ := hp (fallsM_of h t)
  have key : ∀ k, idM xs t = some k → i = k := by
    intro k hk
    obtain ⟨hkl, e⟩ := idM_some hk
    have e0 : cmpMelt xs t k = 0 := by rw [cmpMelt_at hkl]; exact cmpS_zero.2 e
    have hik : i ≤ k := by
      rcases Nat.lt_or_ge k i with h3 | h3
      · have := h1 k h3; omega
      · exact h3
    rcases Nat.lt_or_ge i k with h3 | h3
    · have h4 := h2 i (Nat.le_refl _) (by omega)
      rw [cmpMelt_at (by omega)] at h4
      have h5 : cmpS xs[i].id t < 0 := cmpS_lt.2 (by rw [← e]; exact h i k h3 hkl)
      simp only at h4; omega
    · omega
  refine ⟨?_, key, hi, fun j hj hji => ?_, fun hn j hj hij => ?_⟩
  · cases e : idM xs t with
    | none =>
      by_cases hl : i < xs.length
      · have : cmpMelt xs t i ≠ 0 := by
          rw [cmpMelt_at hl]
          exact fun h0 => idM_none e i hl (cmpS_zero.1 h0)
        simp [this]
      · simp [hl]
    | some k =>
      obtain rfl := key k e
      obtain ⟨hl, e2⟩ := idM_some e
      have : cmpMelt xs t i = 0 := by rw [cmpMelt_at hl]; exact cmpS_zero.2 e2
      simp [hl, this]
  · have := h1 j hji
    rw [cmpMelt_at hj] at this
    exact cmpS_lt.1 this
  · have h4 := h2 j hij hj
    rw [cmpMelt_at hj] at h4
    exact cmpS_gt (by simp only at h4 ⊢; omega) (fun h0 => idM_none hn j hj (cmpS_zero.1 h0))
/-- the melts whose id is another -/
def dropF (a : ByteArray) (xs : List Melt) : List Melt := xs.filter fun x => !(strEq x.id a)
def dropS (xs : List Melt) (a : ByteArray) : List Melt × Int := if meltsB xs = true then (if (idM xs a).isSome = true then (dropF a xs, 0) else ([], 3)) else ([], 1)
theorem dropF_no {xs : List Melt} {a : ByteArray} {k : Nat} (hk : k < xs.length) (h : strEq xs[k].id a = true) : dropF a (xs.take (k + 1)) = dropF a (xs.take k) := by
  unfold dropF
  rw [List.take_succ_eq_append_getElem hk, List.filter_append]
  simp [h]
theorem dropF_yes {xs : List Melt} {a : ByteArray} {k : Nat} (hk : k < xs.length) (h : strEq xs[k].id a = false) : dropF a (xs.take (k + 1)) = dropF a (xs.take k) ++ [xs[k]] := by
  unfold dropF
  rw [List.take_succ_eq_append_getElem hk, List.filter_append]
  simp [h]
theorem dropF_len (a : ByteArray) (xs : List Melt) (k : Nat) : (dropF a (xs.take k)).length ≤ k := by
  have h1 := List.length_filter_le (fun x : Melt => !(strEq x.id a)) (xs.take k)
  rw [List.length_take] at h1
  unfold dropF
  omega
theorem dropF_all {xs : List Melt} {a : ByteArray} (h : ∀ x ∈ xs, strEq x.id a = false) : dropF a xs = xs := by
  unfold dropF
  rw [List.filter_eq_self]
  exact fun x hx => by rw [h x hx]; rfl
theorem dropF_none {xs : List Melt} {a : ByteArray} (h : idM xs a = none) : dropF a xs = xs := dropF_all fun x hx => by
  obtain ⟨i, hi, rfl⟩ := List.mem_iff_getElem.1 hx
  rw [← Bool.not_eq_true]
  exact fun q => idM_none h i hi (strEq_iff.1 q)
theorem dropF_some {xs : List Melt} (hr : RisesM xs) {a : ByteArray} {k : Nat} (h : idM xs a = some k) : dropF a xs = xs.eraseIdx k ∧ k < xs.length := by
  obtain ⟨hk, he⟩ := idM_some h
  refine ⟨?_, hk⟩
  have e : xs = xs.take k ++ xs[k] :: xs.drop (k + 1) := by rw [← List.drop_eq_getElem_cons hk, List.take_append_drop]
  have z1 : dropF a (xs.take k) = xs.take k := dropF_all fun x hx => by
    obtain ⟨i, hi, rfl⟩ := List.mem_take_iff_getElem.1 hx
    rw [← Bool.not_eq_true]
    intro q
    have := risesM_inj hr (i := i) (j := k) (by omega) hk (by rw [strEq_iff.1 q, he])
    omega
  have z2 : dropF a (xs.drop (k + 1)) = xs.drop (k + 1) := dropF_all fun x hx => by
    obtain ⟨i, hi, rfl⟩ := List.mem_drop_iff_getElem.1 hx
    rw [← Bool.not_eq_true]
    intro q
    have := risesM_inj hr (i := k + 1 + i) (j := k) (by omega) hk (by rw [strEq_iff.1 q, he])
    omega
  have e2 : dropF a (xs.take k ++ xs[k] :: xs.drop (k + 1)) = dropF a (xs.take k) ++ dropF a (xs.drop (k + 1)) := by
    unfold dropF
    rw [List.filter_append, List.filter_cons, if_neg (by rw [strEq_iff.2 he]; simp)]
  rw [List.eraseIdx_eq_take_drop_succ]
  conv => lhs; rw [e]
  rw [e2, z1, z2]
theorem dropF_size {xs : List Melt} (hr : RisesM xs) (a : ByteArray) : ((dropF a xs).length == xs.length) = !(idM xs a).isSome := by
  cases h : idM xs a with
  | none => rw [dropF_none h]; simp
  | some k =>
    obtain ⟨e, hk⟩ := dropF_some hr h
    rw [e, List.length_eraseIdx_of_lt hk]
    simp; omega
theorem drop_bad {xs : List Melt} {a : ByteArray} (h : meltsB xs = false) : dropS xs a = ([], 1) := by unfold dropS; rw [h]; rfl
theorem drop_no {xs : List Melt} {a : ByteArray} (h : meltsB xs = true) (h2 : (idM xs a).isSome = false) : dropS xs a = ([], 3) := by unfold dropS; rw [h, h2]; rfl
theorem drop_yes {xs : List Melt} {a : ByteArray} (h : meltsB xs = true) (h2 : (idM xs a).isSome = true) : dropS xs a = (dropF a xs, 0) := by unfold dropS; rw [h, h2]; rfl
/-- what a result says is short, and each melt of it names an ingot -/
theorem dropS_fine (xs : List Melt) (a : ByteArray) : (dropS xs a).1.length ≤ 12 ∧ ∀ x ∈ (dropS xs a).1, 1 ≤ x.ingots.length ∧ x.ingots.length ≤ 16 := by
  unfold dropS
  cases hM : meltsB xs with
  | false => exact ⟨by simp, fun x hx => by simp at hx⟩
  | true =>
    obtain ⟨h12, hall⟩ := meltsB_all hM
    cases hs : (idM xs a).isSome with
    | false => exact ⟨by simp, fun x hx => by simp at hx⟩
    | true =>
      simp only [if_true]
      have := List.length_filter_le (fun x : Melt => !(strEq x.id a)) xs
      refine ⟨by unfold dropF; omega, fun x hx => ?_⟩
      have hb := meltB_parts (hall x (List.mem_filter.1 hx).1)
      exact ⟨hb.2.1, hb.2.2.1⟩
theorem said_lens {ys xs : List Melt} (h : ys.map Melt.said = xs.map Melt.said) (p : Nat → Prop) (hp : ∀ x ∈ xs, p x.ingots.length) : ∀ y ∈ ys, p y.ingots.length := fun y hy => by
  obtain ⟨x, hx, e⟩ := said_mem h hy
  rw [← e]; exact hp x hx
end Go.Proofs.Ytklgkbiobggbiaa
namespace Go.Proofs.Ytklgkbiobggbiaa
open Go.ChangeShapes Go.WideShapes Go.ChangeAt Go.RowKit Go.Deep Go.Joins
set_option linter.unusedVariables false
set_option maxRecDepth 100000
set_option linter.unusedSimpArgs false
theorem own_block {w : World} {base g cap n s : Nat} {E : TypeId} {L : List Value} (h : w.ownsRow base E s (.slice (some ⟨g, 0, none⟩) n cap) n L) : ∃ U, Own w g E (L ++ U) := by
  obtain ⟨h1, h2⟩ := h
  rcases h2 with ⟨e, _⟩ | ⟨g', cap', cur, e, hb, hg, hn, hm, hs, ht⟩
  · cases e
  · injection e with q1 q2 q3
    injection q1 with q4
    injection q4 with q5
    subst q5
    refine ⟨cur.toList.drop (n * s), ?_⟩
    rw [← ht, List.take_append_drop]
    unfold Own
    simpa using hg
/-- blocks of two types are two blocks -/
theorem own_apart_type {w : World} {base s n g : Nat} {E E' : TypeId} {v : Value} {L L' : List Value} (h : w.ownsRow base E s v n L) (o : Own w g E' L') (hne : E ≠ E') : ∀ g', v.ownBlock = some g' → g' ≠ g := by
  rintro g' hg rfl
  obtain ⟨h1, h2⟩ := h
  rcases h2 with ⟨rfl, _⟩ | ⟨g2, cap, cur, rfl, hb, hg2, rest⟩
  · cases hg
  · obtain rfl : g2 = g' := by injection hg
    unfold Own at o
    rw [hg2] at o
    injection o with o
    injection o with _ q _
    exact hne q
theorem own_rdU {w : World} {g n : Nat} {E : TypeId} {L U : List Value} (h : Own w g E (L ++ U)) (hl : L.length = n * 1) (k : Nat) (hk : k < n) : w.cell? ⟨g, k, none⟩ = L[k]? := by
  rw [h.cell, List.getElem?_append_left (by omega)]
theorem dash_list : (⟨#[45]⟩ : ByteArray).toList = [45] := by rw [ByteArray.toList_eq]
theorem two_of {α : Type} {l : List α} (h : l.length = 2) : ∃ a b, l = [a, b] := by
  match l, h with
  | [a, b], _ => exact ⟨a, b, rfl⟩
end Go.Proofs.Ytklgkbiobggbiaa
namespace Go.Proofs.Ytklgkbiobggbiaa
open Go.ChangeShapes Go.WideShapes Go.ChangeAt Go.RowKit Go.Deep Go.Joins
set_option linter.unusedVariables false
set_option maxRecDepth 100000
set_option linter.unusedSimpArgs false
theorem sapp_slE {P : Program} {w1 : World} {ops : Array Oper} {o : Oper} {a : Act} {K : Act → World → Prop} {Q : Exit → Act → World → Prop} {X : Prop} (hgd : o.guard = none) (s x : Operand) (T E : TypeId)
    (ho : o.op = .call { callee := .builtin .append, args := #[s, x], argTypes := #[T, T] }) (i : TypeInfo) (z : Value) (sz bytes : Nat)
    (hT : P.underlying T = some (.slice E)) (hi : P.info? E = some i) (hz : i.zero = some z) (h1 : i.size = sz) (h2 : i.bytes = bytes) (hzs : z.cells.size = sz) (hsz : 0 < sz)
    (w0 : World) (hs : a.eval s = .slice (some ⟨w0.heap.size, 0, none⟩) 0 0) (xv : Value) (m : Nat) (cs : List Value) (hx : a.eval x = xv) (hr : Rd w0.heap.size w0 xv sz m cs) (hone : ∀ u ∈ cs, u.oneCell' = true) (hm : 0 < m) (hn : m ≤ 2097152) (hby : bytes ≤ 64)
    (hw : w1 = w0.alloc (.cells #[] E))
    (h : ∀ g cap w', Hid (w'.ownsRow w0.heap.size E sz (.slice (some ⟨g, 0, none⟩) m cap) m cs) → Hid (Below w0.heap.size w0 w') → K (a.put o.dst (.slice (some ⟨g, 0, none⟩) m cap)) w') :
    if Region.wanted o (yielded ops a.tmps) = true then Oper.wp P o a w1 K Q else X := by
  have hwt : Region.wanted o (yielded ops a.tmps) = true := by simp [Region.wanted, hgd]
  rw [if_pos hwt]
  subst hw
  have hb : (0 + m) * bytes ≤ 140737488355328 := by
    have := Nat.mul_le_mul hn hby
    rw [Nat.zero_add]
    omega
  have b0 : Below w0.heap.size w0 (w0.alloc (.cells #[] E)) := (Below.refl _ w0).alloc (Nat.le_refl _) _
  obtain ⟨hl, ao, cap, rfl, hc, hmx, hnil, hsome⟩ := hr
  obtain ⟨b, off, rfl, hbB, hcell⟩ := hsome hm
  refine wp_append_lies _ s x T ho w0.heap.size E i z sz bytes hT hi hz h1 h2 hzs hsz _ 0 [] hs (own_empty w0 w0.heap.size E sz (Nat.le_refl _)) ⟨b, off, none⟩ m cap cs hx hl (fun j u hj => ?_) hone hm (by unfold maxLen; omega) hb b0.size _ rfl ?_
  · have hj' := (List.getElem?_eq_some_iff.1 hj).1
    rw [Addr.add_lit, b0.cell (p := ⟨b, off + j, none⟩) hbB, hcell j (by omega), hj]
  · intro g cap' w' hown hgrow _ _
    rw [Nat.zero_add, List.nil_append] at hown
    rw [Nat.zero_add]
    exact h g cap' w' (Lib.hid hown) (Lib.hid (grown_below b0 (own_empty w0 w0.heap.size E sz (Nat.le_refl _)) b0.size hgrow))
theorem infoOM : (Try.prog.info? 9).map (fun i => (i.zero, i.size, i.bytes)) = some (some (.string ByteArray.empty), 1, 16) := by kernel_rfl
theorem putStr_one (xs : List ByteArray) : ∀ u ∈ xs.flatMap putStr, u.oneCell' = true := by
  intro u hu
  obtain ⟨x, _, hx⟩ := List.mem_flatMap.1 hu
  obtain rfl : u = .string x := by simpa [putStr] using hx
  rfl
/-- a list of one's own that is not empty: its block -/
theorem own_kid {w : World} {base : Nat} {n : Nat} {v : Value} {E : TypeId} {L : List Value} (h : w.ownsRow base E 1 v n L) (h0 : 0 < n) : ∃ g c V, v = .slice (some ⟨g, 0, none⟩) n c ∧ n ≤ c ∧ c ≤ maxLen ∧ base ≤ g ∧ Own w g E (L ++ V) := by
  rcases own_form h with ⟨_, q⟩ | ⟨g, cap, rfl⟩
  · omega
  obtain ⟨U, ou⟩ := own_block h
  obtain ⟨_, ao, c2, e, h2, h3, _⟩ := own_rd h
  injection e with _ _ e3
  subst e3
  have hb : base ≤ g := (h.lt g rfl).1
  exact ⟨g, cap, U, rfl, h2, h3, hb, ou⟩
set_option maxHeartbeats 4000000 in
theorem spec_l14Own (w : World) (a o : Nat) (id : ByteArray) (ids : List ByteArray) (mass : Int) (v : Value) (c0 : w.cell? ⟨a, o, none⟩ = some (.string id)) (c1 : w.cell? ⟨a, o + 1, none⟩ = some v) (c2 : w.cell? ⟨a, o + 2, none⟩ = some (.int .i64 mass)) (ha : a < w.heap.size)
    (h : Rd w.heap.size w v 1 ids.length (ids.flatMap putStr)) (h0 : 1 ≤ ids.length) (hn : ids.length ≤ 1048576) :
    Calls Try.prog 70 #[.pointer (some ⟨a, o, none⟩)] w fun e w' => ∃ g c V, e = .returned (.agg #[.string id, .slice (some ⟨g, 0, none⟩) ids.length c, .int .i64 mass]) ∧ ids.length ≤ c ∧ c ≤ maxLen ∧ w.heap.size ≤ g ∧ Own w' g 9 (ids.flatMap putStr ++ V) ∧ Below w.heap.size w w' := by
  obtain ⟨i0, hi, hz0, hz1, hz2⟩ := info_parts infoOM
  have hR0 : Hid (Own (w.alloc (.cells #[.string ⟨#[]⟩, .slice none 0 0, .int .i64 0] 67)) w.heap.size 67 [.string ⟨#[]⟩, .slice none 0 0, .int .i64 0]) := Lib.hid (Own.new w _ _)
  have HB0 : Hid (Below w.heap.size w (w.alloc (.cells #[.string ⟨#[]⟩, .slice none 0 0, .int .i64 0] 67)).drew) := Lib.hid (((Below.refl _ _).alloc (Nat.le_refl _) _).drew)
  have HR := Lib.hid (h.up ((Below.refl _ w).alloc (Nat.le_refl _) (.cells #[.string ⟨#[]⟩, .slice none 0 0, .int .i64 0] 67)))
  obtain ⟨lo, lc, rfl⟩ := h.form
  have h1 := putStr_one ids
  have mixed : Try.prog.follows .mixedOrders = true := by kernel_rfl
  clear h
  go_enter Try.func70, Try.ntmps70
  go_wp2_with fail
  go_region_law_o (refine sapp_slE rfl _ _ 59 9 rfl i0 (.string ByteArray.empty) 1 16 Try.underlying59 hi hz0 hz1 hz2 (by rfl) (by decide) (w.alloc (.cells #[.string ⟨#[]⟩, .slice none 0 0, .int .i64 0] 67)).drew (by simp [Act.eval, Act.put]) _ ids.length (ids.flatMap putStr) (by simp [Act.eval, Act.put]; try rfl) HR.out h1 (by omega) (by omega) (by decide) (by rfl) ?_; intro g cap w1 HO1 HB1; have HBW : Hid (Below w.heap.size w w1) := Lib.hid (HB0.out.trans (HB1.out.mono HB0.out.size)); have R1 : Hid (Own w1 w.heap.size 67 [.string ⟨#[]⟩, .slice none 0 0, .int .i64 0]) := Lib.hid (Own.below (w := (w.alloc (.cells #[.string ⟨#[]⟩, .slice none 0 0, .int .i64 0] 67)).drew) hR0.out HB1.out hR0.out.lt); have d0 := (HBW.out.cell (p := ⟨a, o, none⟩) ha).trans c0; have d1 := (HBW.out.cell (p := ⟨a, o + 1, none⟩) ha).trans c1; have d2 := (HBW.out.cell (p := ⟨a, o + 2, none⟩) ha).trans c2; have q0 : w1.cell? ⟨w.heap.size, 0, none⟩ = some (.string ⟨#[]⟩) := R1.out.cell 0; have q1 : w1.cell? ⟨w.heap.size, 1, none⟩ = some (.slice none 0 0) := R1.out.cell 1; have q2 : w1.cell? ⟨w.heap.size, 2, none⟩ = some (.int .i64 0) := R1.out.cell 2; have f0 := R1.out.free 0; have f1 := R1.out.free 1; have f2 := R1.out.free 2; have hlt := R1.out.lt; have hne : ¬ w.heap.size = w1.heap.size := (by omega))
  all_goals go_wp2_with fail
  all_goals obtain ⟨g', c', V, e1, k2, k3, k4, k5⟩ := own_kid HO1.out (by omega)
  all_goals cases e1
  all_goals have hgs : w.heap.size + 1 ≤ g := by simpa using k4
  all_goals have hb := HBW.out
  all_goals refine bodyPost_ret (v := .agg #[.string id, .slice (some ⟨g, 0, none⟩) ids.length cap, .int .i64 mass]) (by simp [results, Try.results70, go_sem, q0, q1, q2, hlt, hne]) rfl ?_
  all_goals exact ⟨g, cap, V, rfl, k2, k3, by omega, ((k5.other (by show w.heap.size ≠ g; omega) _).other (by show w.heap.size ≠ g; omega) _).other (by show w.heap.size ≠ g; omega) _, by (repeat' (first | (with_reducible exact Below.refl _ _) | (with_reducible assumption) | (with_reducible refine below_dn ?_ _) | (with_reducible refine Below.drew ?_) | (with_reducible refine Below.alloc ?_ ?_ _) | (with_reducible refine Below.setCell ?_ ?_ _) | go_size))⟩
end Go.Proofs.Ytklgkbiobggbiaa
namespace Go.Proofs.Ytklgkbiobggbiaa
open Go.ChangeShapes Go.WideShapes Go.ChangeAt Go.RowKit Go.Deep Go.Joins
set_option linter.unusedVariables false
set_option maxRecDepth 100000
set_option linter.unusedSimpArgs false
set_option maxHeartbeats 1000000 in
theorem impl_areNames (w : World) (v : Value) (xs : List ByteArray) (h : Rd w.heap.size w v 1 xs.length (xs.flatMap putStr)) (hn : xs.length ≤ 1048576) (hok : ∀ s ∈ xs, s.size ≤ maxLen) :
    Calls Try.prog 133 #[v] w fun e w' => e = .returned (.bool (allK (stepB nameB ltName xs) xs.length)) ∧ Below w.heap.size w w' := by
  obtain ⟨hL, ao, cap, rfl, hcap, hmax, hnil, hsome⟩ := h
  have Hok := Lib.hid hok; clear hok
  go_enter Try.func133, Try.ntmps133
  go_wp2
  go_loopw [7] (fun i wr => ∃ (k : Nat), k ≤ xs.length ∧ i = .int .i64 k ∧ allK (stepB nameB ltName xs) k = true ∧ Below w.heap.size w wr) (fun i _ => xs.length - (intOf i).toNat)
  case atStart => exact ⟨0, Nat.zero_le _, rfl, rfl, Below.refl _ _⟩
  case round =>
    obtain ⟨k, hk, rfl, hall, hb⟩ := hrel
    have Hall := Lib.hid hall; clear hall
    by_cases hlt : k < xs.length
    · obtain ⟨b, off, rfl, hbB, hc⟩ := hsome (by omega)
      have c0 : wr.cell? ⟨b, off + k, none⟩ = some (.string xs[k]) := by
        rw [hb.cell (p := ⟨b, off + k, none⟩) hbB, hc k (by omega), putStr_get xs k hlt]
      have hbr : b < wr.heap.size := Nat.lt_of_lt_of_le hbB hb.size
      have hok : xs[k].size ≤ maxLen := Hok.out _ (List.getElem_mem hlt)
      have HK := Lib.hid hok; clear hok
      have HS := Lib.hid (allK_succ (stepB nameB ltName xs) k)
      have HF := Lib.hid (allK_false (stepB nameB ltName xs) xs.length k hlt)
      cases hO : nameB xs[k]
      · have e : Hid (allK (stepB nameB ltName xs) xs.length = false) := (HF.out (stepB_no hlt hO) : allK (stepB nameB ltName xs) xs.length = false)
        have HB := Lib.hid hb
        clear hc hsome hnil hb
        go_wp2_with fail
        refine (impl_IsName_is _ _ HK.out hO).mono ?_; rintro e1 w1 ⟨rfl, b1⟩
        have HB1 := Lib.hid (HB.out.trans (b1.mono HB.out.size)); clear b1 HB
        go_wp2_with fail
        go_ret
        exact ⟨by rw [e.out]; rfl, HB1.out⟩
      by_cases hk0 : k = 0
      · have e : Hid (allK (stepB nameB ltName xs) (k + 1) = true) := (by subst hk0; rw [HS.out, stepB_zero hlt hO]; rfl : allK (stepB nameB ltName xs) (k + 1) = true)
        have hz : decide (0 < k) = false := decide_eq_false (by omega)
        have HB := Lib.hid hb
        clear hc hsome hnil hb hk0
        go_wp2_with fail
        refine (impl_IsName_is _ _ HK.out hO).mono ?_; rintro e1 w1 ⟨rfl, b1⟩
        have HB1 := Lib.hid (HB.out.trans (b1.mono HB.out.size)); clear b1 HB
        go_wp2_with fail
        go_roundw
        case rel => exact ⟨k + 1, by omega, by go_num, e.out, HB1.out⟩
        case measure => simp [intOf]; omega
      · have hpos : 0 < k := by omega
        have hz : decide (0 < k) = true := decide_eq_true (by omega)
        have p0 : wr.cell? ⟨b, off + (k - 1), none⟩ = some (.string xs[k - 1]) := by
          rw [hb.cell (p := ⟨b, off + (k - 1), none⟩) hbB, hc (k - 1) (by omega), putStr_get xs (k - 1) (by omega)]
        cases hT : ltName xs[k - 1] xs[k]
        · have e : Hid (allK (stepB nameB ltName xs) xs.length = false) := (HF.out (stepB_lt hlt hpos hO hT) : allK (stepB nameB ltName xs) xs.length = false)
          have t1 : (Op.bytesLess xs[k].toList xs[k - 1].toList || xs[k].toList == xs[k - 1].toList) = true := ltName_impl_f hT
          have HB := Lib.hid hb
          clear hc hsome hnil hb hT
          go_wp2_with fail
          refine (impl_IsName_is _ _ HK.out hO).mono ?_; rintro e1 w1 ⟨rfl, b1⟩
          have p1 : w1.cell? ⟨b, off + (k - 1), none⟩ = some (.string xs[k - 1]) := (b1.cell (p := ⟨b, off + (k - 1), none⟩) hbr).trans p0
          have HB1 := Lib.hid (HB.out.trans (b1.mono HB.out.size)); clear b1 HB p0 c0
          go_wp2_with fail
          go_ret
          exact ⟨by rw [e.out]; rfl, HB1.out⟩
        · have e : Hid (allK (stepB nameB ltName xs) (k + 1) = true) := (by rw [HS.out, Hall.out, stepB_yes hlt hpos hO hT]; rfl : allK (stepB nameB ltName xs) (k + 1) = true)
          have t1 : (Op.bytesLess xs[k].toList xs[k - 1].toList || xs[k].toList == xs[k - 1].toList) = false := ltName_impl_t hT
          have HB := Lib.hid hb
          clear hc hsome hnil hb hT
          go_wp2_with fail
          refine (impl_IsName_is _ _ HK.out hO).mono ?_; rintro e1 w1 ⟨rfl, b1⟩
          have p1 : w1.cell? ⟨b, off + (k - 1), none⟩ = some (.string xs[k - 1]) := (b1.cell (p := ⟨b, off + (k - 1), none⟩) hbr).trans p0
          have HB1 := Lib.hid (HB.out.trans (b1.mono HB.out.size)); clear b1 HB p0 c0
          go_wp2_with fail
          go_roundw
          case rel => exact ⟨k + 1, by omega, by go_num, e.out, HB1.out⟩
          case measure => simp [intOf]; omega
    · have e : Hid (allK (stepB nameB ltName xs) xs.length = true) := (by
        obtain rfl : k = xs.length := by omega
        exact Hall.out : allK (stepB nameB ltName xs) xs.length = true)
      go_wp2
      go_ret
      exact ⟨by rw [e.out]; rfl, hb⟩

theorem impl_areNames_is {b : Bool} (w : World) (v : Value) (xs : List ByteArray) (h : Rd w.heap.size w v 1 xs.length (xs.flatMap putStr)) (hn : xs.length ≤ 1048576) (hok : ∀ s ∈ xs, s.size ≤ maxLen) (hb : allK (stepB nameB ltName xs) xs.length = b) :
    Calls Try.prog 133 #[v] w fun e w' => e = .returned (.bool b) ∧ Below w.heap.size w w' := by
  subst hb; exact impl_areNames w v xs h hn hok

set_option maxHeartbeats 1000000 in
theorem impl_ValidMelt (x : Melt) (w : World) (hx : x.ok w) (hn : x.ingots.length ≤ 1048576) :
    Calls Try.prog 88 #[.agg #[.string x.id, x.list, .int .i64 x.mass]] w fun e w' => e = .returned (.bool (meltB x)) ∧ Below w.heap.size w w' := by
  obtain ⟨hi, ⟨hr, hl, hs⟩, _⟩ := hx
  have Hi := Lib.hid hi; clear hi
  have HR := Lib.hid hr
  obtain ⟨hL, ao, cap, hlist, hcap, hmax, hnil, hsome⟩ := hr
  rw [hlist] at HR
  rw [hlist]
  clear hlist hnil hsome
  have Hok := Lib.hid hs; clear hs
  unfold meltB
  cases hN : nameB x.id
  case false =>
    go_enter Try.func88, Try.ntmps88
    go_wp2_with fail
    refine (impl_IsName_is _ _ Hi.out (by assumption)).mono ?_; rintro e w1 ⟨rfl, b1⟩
    go_wp2_with fail
    go_ret
    exact ⟨rfl, Below.trans (by (repeat' (first | (with_reducible exact Below.refl _ _) | (with_reducible assumption) | (with_reducible refine below_dn ?_ _) | (with_reducible refine Below.drew ?_) | (with_reducible refine Below.alloc ?_ ?_ _) | (with_reducible refine Below.setCell ?_ ?_ _) | go_size))) (b1.mono (by simp))⟩
  by_cases hz1 : 1 ≤ x.ingots.length
  case neg =>
    have t1 : decide ((1 : Int) ≤ x.ingots.length) = false := decide_eq_false (by omega)
    have e0 : Hid (decide (1 ≤ x.ingots.length) = false) := (decide_eq_false hz1 : decide (1 ≤ x.ingots.length) = false)
    go_enter Try.func88, Try.ntmps88
    go_wp2_with fail
    refine (impl_IsName_is _ _ Hi.out (by assumption)).mono ?_; rintro e w1 ⟨rfl, b1⟩
    obtain ⟨hc, hf⟩ := bcell b1
    go_wp2_with fail
    go_ret
    exact ⟨by rw [e0.out]; rfl, Below.trans (by (repeat' (first | (with_reducible exact Below.refl _ _) | (with_reducible assumption) | (with_reducible refine below_dn ?_ _) | (with_reducible refine Below.drew ?_) | (with_reducible refine Below.alloc ?_ ?_ _) | (with_reducible refine Below.setCell ?_ ?_ _) | go_size))) (b1.mono (by simp))⟩
  by_cases hz2 : x.ingots.length ≤ 16
  case neg =>
    have t2 : decide ((x.ingots.length : Int) ≤ 16) = false := decide_eq_false (by omega)
    have e0 : Hid (decide (x.ingots.length ≤ 16) = false) := (decide_eq_false hz2 : decide (x.ingots.length ≤ 16) = false)
    go_enter Try.func88, Try.ntmps88
    go_wp2_with fail
    refine (impl_IsName_is _ _ Hi.out (by assumption)).mono ?_; rintro e w1 ⟨rfl, b1⟩
    obtain ⟨hc, hf⟩ := bcell b1
    go_wp2_with fail
    go_ret
    exact ⟨by rw [e0.out]; simp, Below.trans (by (repeat' (first | (with_reducible exact Below.refl _ _) | (with_reducible assumption) | (with_reducible refine below_dn ?_ _) | (with_reducible refine Below.drew ?_) | (with_reducible refine Below.alloc ?_ ?_ _) | (with_reducible refine Below.setCell ?_ ?_ _) | go_size))) (b1.mono (by simp))⟩
  have e1 : Hid (decide (1 ≤ x.ingots.length) = true) := (decide_eq_true hz1 : decide (1 ≤ x.ingots.length) = true)
  have e2 : Hid (decide (x.ingots.length ≤ 16) = true) := (decide_eq_true hz2 : decide (x.ingots.length ≤ 16) = true)
  cases hA : allK (stepB nameB ltName x.ingots) x.ingots.length
  case false =>
    go_enter Try.func88, Try.ntmps88
    go_wp2_with fail
    refine (impl_IsName_is _ _ Hi.out (by assumption)).mono ?_; rintro e w1 ⟨rfl, b1⟩
    have HB := Lib.hid b1
    obtain ⟨hc, hf⟩ := bcell b1
    go_wp2_with fail
    clear hc hf b1
    refine (impl_areNames_is _ _ x.ingots (by exact HR.out.up (Below.trans (by (repeat' (first | (with_reducible exact Below.refl _ _) | (with_reducible assumption) | (with_reducible refine below_dn ?_ _) | (with_reducible refine Below.drew ?_) | (with_reducible refine Below.alloc ?_ ?_ _) | (with_reducible refine Below.setCell ?_ ?_ _) | go_size))) (HB.out.mono (by simp)))) hn Hok.out hA).mono ?_; rintro e w2 ⟨rfl, b2⟩
    have B2 := bnext HB.out b2; clear b2 HB
    go_wp2_with fail
    go_ret
    exact ⟨by rw [e1.out, e2.out]; rfl, Below.trans (by (repeat' (first | (with_reducible exact Below.refl _ _) | (with_reducible assumption) | (with_reducible refine below_dn ?_ _) | (with_reducible refine Below.drew ?_) | (with_reducible refine Below.alloc ?_ ?_ _) | (with_reducible refine Below.setCell ?_ ?_ _) | go_size))) (B2.mono (by simp))⟩
  cases hM : inB x.mass 1 320000000
  all_goals
    go_enter Try.func88, Try.ntmps88
    go_wp2_with fail
    refine (impl_IsName_is _ _ Hi.out (by assumption)).mono ?_; rintro e w1 ⟨rfl, b1⟩
    have HB := Lib.hid b1
    obtain ⟨hc, hf⟩ := bcell b1
    go_wp2_with fail
    clear hc hf b1
    refine (impl_areNames_is _ _ x.ingots (by exact HR.out.up (Below.trans (by (repeat' (first | (with_reducible exact Below.refl _ _) | (with_reducible assumption) | (with_reducible refine below_dn ?_ _) | (with_reducible refine Below.drew ?_) | (with_reducible refine Below.alloc ?_ ?_ _) | (with_reducible refine Below.setCell ?_ ?_ _) | go_size))) (HB.out.mono (by simp)))) hn Hok.out hA).mono ?_; rintro e w2 ⟨rfl, b2⟩
    have B2 := bnext HB.out b2; clear b2 HB
    have HB2 := Lib.hid B2
    obtain ⟨hc, hf⟩ := bcell B2
    clear B2
    go_wp2_with (go_at_call 59; refine (within_is _ _ _ _ (by assumption)).mono ?_; rintro e w' ⟨rfl, rfl⟩)
    go_ret
    exact ⟨by rw [e1.out, e2.out]; rfl, Below.trans (by (repeat' (first | (with_reducible exact Below.refl _ _) | (with_reducible assumption) | (with_reducible refine below_dn ?_ _) | (with_reducible refine Below.drew ?_) | (with_reducible refine Below.alloc ?_ ?_ _) | (with_reducible refine Below.setCell ?_ ?_ _) | go_size))) (HB2.out.mono (by simp))⟩

theorem impl_ValidMelt_is {b : Bool} (x : Melt) (w : World) (hx : x.ok w) (hn : x.ingots.length ≤ 1048576) (hb : meltB x = b) :
    Calls Try.prog 88 #[.agg #[.string x.id, x.list, .int .i64 x.mass]] w fun e w' => e = .returned (.bool b) ∧ Below w.heap.size w w' := by
  subst hb; exact impl_ValidMelt x w hx hn
end Go.Proofs.Ytklgkbiobggbiaa
