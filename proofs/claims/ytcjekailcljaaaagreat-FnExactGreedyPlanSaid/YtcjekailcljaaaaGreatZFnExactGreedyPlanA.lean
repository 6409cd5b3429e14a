/- Contracts and plain facts, joined: Base. -/
import Derived.Test.YtcjekailcljaaaaGreatRows
import Derived.WalkKit
import Derived.ProofKit
import Derived.OpenShut
import Derived.Handy
import Derived.Carry
import Derived.SizedLaws
import Derived.OpenVars
import Derived.Deep.DeepHandedRow
import Derived.Lib.SmallJoins
import Derived.Deep.Slices
import Derived.Lib.Hide
import Derived.Deep.QuietTactic
import Derived.BigQuiet
namespace Go.Proofs.YtcjekailcljaaaaGreat
open Go.ChangeShapes Go.WideShapes Go.ChangeAt Go.RowKit Go.Deep Go.Joins
set_option linter.unusedVariables false
set_option maxRecDepth 100000
set_option linter.unusedSimpArgs false
/-- a contract of a callee that leaves the world alone, in a region that draws its order -/
theorem quietE {P : Program} {f : FuncId} {args : Array Value} {w : World} {n : Nat} {v : Value} (h : Calls P f args (w.drewN n) fun e w' => e = .returned v ∧ w.drewN n = w') :
    Calls P f args (w.drewN n) fun e w'' => e = .returned v ∧ ∃ m, w'' = w.drewN m :=
  h.mono fun _ _ ⟨he, hm⟩ => ⟨he, n, hm.symm⟩
/-- .. of one that draws -/
def Drew (w w' : World) : Prop := ∃ n, w' = w.drewN n
theorem Drew.refl (w : World) : Drew w w := ⟨0, rfl⟩
theorem quietD {P : Program} {f : FuncId} {args : Array Value} {w : World} {n : Nat} {v : Value} (h : Calls P f args (w.drewN n) fun e w' => e = .returned v ∧ Drew (w.drewN n) w') :
    Calls P f args (w.drewN n) fun e w'' => e = .returned v ∧ ∃ m, w'' = w.drewN m :=
  h.mono fun _ _ ⟨he, m, hm⟩ => ⟨he, n + m, by rw [hm, World.drewN_drewN]⟩

theorem below_dn {B : Nat} {a w : World} (h : Below B a w) (n : Nat) : Below B a (w.drewN n) := by
  refine h.trans ⟨rfl, rfl, rfl, Nat.le_refl _, fun _ _ => rfl⟩
theorem Drew.below {B : Nat} {w w' : World} (h : Drew w w') : Below B w w' := by
  obtain ⟨n, rfl⟩ := h
  exact below_dn (Below.refl _ _) n
theorem Drew.trans {a b c : World} (h : Drew a b) (k : Drew b c) : Drew a c := by
  obtain ⟨n, rfl⟩ := h
  obtain ⟨m, rfl⟩ := k
  exact ⟨n + m, by rw [World.drewN_drewN]⟩

/-- old cells and marks read as before -/
theorem bcell {W w1 : World} (hb : Below W.heap.size W w1) : (∀ b o, b < W.heap.size → w1.cell? ⟨b, o, none⟩ = W.cell? ⟨b, o, none⟩) ∧ (∀ b o, b < W.heap.size → w1.frozen? ⟨b, o, none⟩ = W.frozen? ⟨b, o, none⟩) :=
  ⟨fun b o h => hb.cell (p := ⟨b, o, none⟩) h, fun b o h => hb.frozen (p := ⟨b, o, none⟩) h⟩
theorem bnext {W w1 w2 : World} (h : Below W.heap.size W w1) (k : Below w1.heap.size w1 w2) : Below W.heap.size W w2 := h.trans (k.mono h.size)

/-- some world above W: below W's own size nothing has turned -/
noncomputable def above (W x : World) : World := by
  classical
  exact if Below W.heap.size W x then x else W
theorem above_of {W x : World} (h : Below W.heap.size W x) : above W x = x := by
  unfold above
  simp [h]
theorem above_below (W x : World) : Below W.heap.size W (above W x) := by
  unfold above
  by_cases h : Below W.heap.size W x
  · simp [h]
  · simp [h, Below.refl]
theorem above_cell {W x : World} {b o : Nat} {s : Option Nat} (h : b < W.heap.size) : (above W x).cell? ⟨b, o, s⟩ = W.cell? ⟨b, o, s⟩ := (above_below W x).cell (p := ⟨b, o, s⟩) h
theorem above_frozen {W x : World} {b o : Nat} {s : Option Nat} (h : b < W.heap.size) : (above W x).frozen? ⟨b, o, s⟩ = W.frozen? ⟨b, o, s⟩ := (above_below W x).frozen (p := ⟨b, o, s⟩) h
attribute [go_sem] above_cell above_frozen
theorem wpQuiet_imp {P : Program} {ops : Array Oper} {C : World → Prop} {Q Q' : Act → Prop} (hq : ∀ a, Q a → Q' a) : ∀ (l : List Oper) (a : Act), wpQuiet P ops C Q l a → wpQuiet P ops C Q' l a
  | [], a, h => hq a h
  | o :: rest, a, h => by
    unfold wpQuiet at h ⊢
    split at h
    · rename_i hw
      rw [if_pos hw]
      exact Oper.quiet_mono (fun a' h' => wpQuiet_imp hq rest a' h') h
    · rename_i hw
      rw [if_neg hw]
      exact wpQuiet_imp hq rest _ h
/-- a region that draws its order, whose operations only read and whose callees lay at most new blocks, and hand back values that hang on no world: one walk in the order of the text -/
theorem wp_region_above {P : Program} {id : Nat} {Q : Exit → Act → World → Prop} {a : Act} {W : World} {l : List Oper} (hm : P.follows .mixedOrders = true) (hB : Region.lexB .any l.toArray = true)
    (h : wpQuiet P l.toArray (fun w' => ∃ x, w' = above W x) (fun a' => ∀ w', Below W.heap.size W w' → Q .normal a' w') l a) : (Code.region id l.toArray true).wp P Q a W :=
  wp_region_quiet (C := fun w' => ∃ x, w' = above W x) hm hB
    ⟨{ W with drawn := W.drawn + 1 }, (above_of (W := W) (x := { W with drawn := W.drawn + 1 }) ⟨rfl, rfl, rfl, Nat.le_refl _, fun _ _ => rfl⟩).symm⟩
    (wpQuiet_imp (fun a' h' w' hw' => by obtain ⟨x, rfl⟩ := hw'; exact h' _ (above_below W x)) _ _ (by simpa using h))
theorem aboveC {P : Program} {f : FuncId} {args : Array Value} {W x : World} {v : Value} (h : Calls P f args (above W x) fun e w' => e = .returned v ∧ Below (above W x).heap.size (above W x) w') :
    Calls P f args (above W x) fun e w'' => e = .returned v ∧ ∃ m, w'' = above W m :=
  h.mono fun _ w' ⟨he, hb⟩ => ⟨he, w', (above_of ((above_below W x).trans (hb.mono (above_below W x).size))).symm⟩
theorem aboveE {P : Program} {f : FuncId} {args : Array Value} {W x : World} {v : Value} (h : Calls P f args (above W x) fun e w' => e = .returned v ∧ above W x = w') :
    Calls P f args (above W x) fun e w'' => e = .returned v ∧ ∃ m, w'' = above W m :=
  h.mono fun _ _ ⟨he, hb⟩ => ⟨he, x, hb.symm⟩
theorem aboveD {P : Program} {f : FuncId} {args : Array Value} {W x : World} {v : Value} (h : Calls P f args (above W x) fun e w' => e = .returned v ∧ Drew (above W x) w') :
    Calls P f args (above W x) fun e w'' => e = .returned v ∧ ∃ m, w'' = above W m :=
  aboveC (h.mono fun _ _ ⟨he, hb⟩ => ⟨he, hb.below⟩)

/-- the arguments read as they did, whatever was laid above them -/
theorem trodAll_below {H : Type} {enc : TypeId × Value → H} {P : Program} (hl : laidOutB P = true) {W W' : World} (hb : Below W.heap.size W W') :
    ∀ {ts : List TypeId} {vs : List Value} {ds : List (DataW H)} {ps : List MemPlace}, (∀ t ∈ ts, P.readableRec t = true ∧ t < P.types.size) →
      DataW.TrodAll enc P W 0 (fun _ => true) true ts vs ds ps → (∀ x ∈ ps, x.block < W.heap.size) →
      DataW.TrodAll enc P W' 0 (fun b => decide (b < W.heap.size)) true ts vs ds ps
  | [], _, _, _, _, h, _ => by
    obtain ⟨rfl, rfl, rfl⟩ := trodAll_nil h
    exact trodAll_mk0
  | t :: ts, _, _, _, hr, h, hlt => by
    obtain ⟨v, vs1, d, ds1, a, b, rfl, rfl, rfl, h1, h2⟩ := trodAll_cons h
    have ht := hr t (List.mem_cons_self ..)
    exact ⟨a, b, Below.trod hl ht.1 ht.2 h1 hb (fun x hx => hlt x (List.mem_append_left _ hx)),
      trodAll_below hl hb (fun t' h' => hr t' (List.mem_cons_of_mem _ h')) h2 (fun x hx => hlt x (List.mem_append_right _ hx)), rfl⟩

/-- a law's 'post': it has answered true, and laid at most new blocks -/
theorem post_law {H : Type} {enc : TypeId × Value → H} {P : Program} {f : Func} {s : ChangeSpec} {W W' : World} {args : Array Value} {ds gs : List (DataW H)} {before : List MemPlace}
    (hl : laidOutB P = true) (hread : f.params.toList.all (fun t => P.readableRec t && decide (t < P.types.size)) = true) {tb : TypeId} (hres : f.resultTypes = #[tb]) (hub : P.underlying tb = some .bool)
    (hvr : varsRowed P s.vars = true)
    (hs : s.fn H (ds ++ gs) = { results := [.lit (.bool true)], args := ds, vars := gs })
    (hW : DataW.Whole enc P f.params.toList s.vars false W args.toList ds gs before) (hb : Below W.heap.size W W') :
    s.post enc P f false true false false W args (.bool true) W' := by
  have hlt := hW.lt
  have hW2 := hW
  obtain ⟨p, q, hA, hV, rfl, hfz, hnd⟩ := hW2
  refine ⟨ds, gs, p ++ q, [], p, q, hW, ?_, ?_, ?_, hb.frame _, fun h => by cases h⟩
  · rw [hs, hres]
    exact trodAll_cons_mk (shut_bool hub _) trodAll_mk0
  · rw [hs]
    refine trodAll_below hl hb ?_ hA (fun x hx => hlt x (List.mem_append_left _ hx))
    intro t ht
    have := List.all_eq_true.1 hread t ht
    simpa using this
  · rw [hs]
    exact Below.trodVars hl hb hvr hV


/-! ### READING THE ARGUMENTS -/

/-- 'v' is a slice value of n elements of s cells each; its cells, below block B, are L -/
def Rd (B : Nat) (w : World) (v : Value) (s n : Nat) (L : List Value) : Prop :=
  L.length = n * s ∧ ∃ ao cap, v = .slice ao n cap ∧ n ≤ cap ∧ cap ≤ maxLen ∧ (ao = none → n = 0 ∧ cap = 0) ∧
    (0 < n → ∃ b off, ao = some ⟨b, off, none⟩ ∧ b < B ∧ ∀ i, i < n * s → w.cell? ⟨b, off + i, none⟩ = L[i]?)

theorem Rd.below {B : Nat} {w w' : World} {v : Value} {s n : Nat} {L : List Value} (h : Rd B w v s n L) (hb : Below B w w') : Rd B w' v s n L := by
  obtain ⟨h1, ao, cap, h2, h3, h4, h5, h6⟩ := h
  refine ⟨h1, ao, cap, h2, h3, h4, h5, fun hn => ?_⟩
  obtain ⟨b, off, e, hB, hc⟩ := h6 hn
  exact ⟨b, off, e, hB, fun i hi => (hb.cell (p := ⟨b, off + i, none⟩) hB).trans (hc i hi)⟩

theorem Rd.mono {B B' : Nat} {w : World} {v : Value} {s n : Nat} {L : List Value} (h : Rd B w v s n L) (hB : B ≤ B') : Rd B' w v s n L := by
  obtain ⟨h1, ao, cap, h2, h3, h4, h5, h6⟩ := h
  refine ⟨h1, ao, cap, h2, h3, h4, h5, fun hn => ?_⟩
  obtain ⟨b, off, e, hb, hc⟩ := h6 hn
  exact ⟨b, off, e, Nat.lt_of_lt_of_le hb hB, hc⟩

theorem Rd.up {w w' : World} {v : Value} {s n : Nat} {L : List Value} (h : Rd w.heap.size w v s n L) (hb : Below w.heap.size w w') : Rd w'.heap.size w' v s n L := (h.below hb).mono hb.size
theorem Rd.form {B : Nat} {w : World} {v : Value} {s n : Nat} {L : List Value} (h : Rd B w v s n L) : ∃ ao cap, v = .slice ao n cap := by
  obtain ⟨_, ao, cap, e, _⟩ := h
  exact ⟨ao, cap, e⟩

/-- what a reading of type t gives: its cells are 'put x', and 'ok' holds of x -/
def Opens (P : Program) (t : TypeId) (α : Type) (put : α → List Value) (ok : World → α → Prop) : Prop :=
  ∀ (H : Type) (enc : TypeId × Value → H) (W : World) (fuel : Nat) (cs : List Value) (x : DataW H × List MemPlace),
    DataW.trod enc P W 0 (fun _ => true) true fuel t cs = some x → (∀ p ∈ x.2, p.block < W.heap.size) → ∃ y, cs = put y ∧ ok W y

/-- an int64 that fits -/
def I64 (n : Int) : Prop := -9223372036854775808 ≤ n ∧ n ≤ 9223372036854775807

theorem opens_i64 {P : Program} {t : TypeId} (ht : P.underlying t = some (.int .i64)) : Opens P t Int (fun n => [.int .i64 n]) (fun _ n => I64 n) := by
  intro H enc W fuel cs x h _
  obtain ⟨n, rfl, _, hw⟩ := DataW.trod_int ht h
  exact ⟨n, rfl, by simpa [I64, Lit.wf, IntKind.min, IntKind.max, IntKind.signed, IntKind.bits] using hw⟩

theorem opens_u8 {P : Program} {t : TypeId} (ht : P.underlying t = some (.int .u8)) : Opens P t UInt8 (fun n => [.int .u8 n.toNat]) (fun _ _ => True) := by
  intro H enc W fuel cs x h _
  obtain ⟨n, rfl, _, hw⟩ := DataW.trod_int ht h
  have hw' : 0 ≤ n ∧ n ≤ 255 := by simpa [Lit.wf, IntKind.min, IntKind.max, IntKind.signed, IntKind.bits] using hw
  refine ⟨UInt8.ofNat n.toNat, ?_, trivial⟩
  have e : ((UInt8.ofNat n.toNat).toNat : Int) = n := by
    rw [UInt8.toNat_ofNat']
    omega
  show [Value.int .u8 n] = [Value.int .u8 ((UInt8.ofNat n.toNat).toNat : Int)]
  rw [e]

theorem opens_str {P : Program} {t : TypeId} (ht : P.underlying t = some .string) : Opens P t ByteArray (fun s => [.string s]) (fun _ s => s.size ≤ maxLen) := by
  intro H enc W fuel cs x h _
  obtain ⟨n, rfl, _, hw⟩ := DataW.trod_string ht h
  exact ⟨n, rfl, hw⟩

theorem opens_bool {P : Program} {t : TypeId} (ht : P.underlying t = some .bool) : Opens P t Bool (fun b => [.bool b]) (fun _ _ => True) := by
  intro H enc W fuel cs x h _
  obtain ⟨n, rfl, _⟩ := DataW.trod_bool ht h
  exact ⟨n, rfl, trivial⟩

theorem flat_get {α : Type} {f : α → List Value} {s : Nat} (xs : List α) (hs : ∀ x ∈ xs, (f x).length = s) {j : Nat} (hj : j < s) : ∀ i, (xs.flatMap f)[i * s + j]? = (xs[i]?).bind (fun x => (f x)[j]?) := by
  induction xs with
  | nil => intro i; simp
  | cons x xs ih =>
    intro i
    have hx := hs x (List.mem_cons_self ..)
    cases i with
    | zero => simp only [Nat.zero_mul, Nat.zero_add, List.flatMap_cons, List.getElem?_cons_zero, Option.bind_some]; rw [List.getElem?_append_left (by omega)]
    | succ i =>
      have := ih (fun y hy => hs y (List.mem_cons_of_mem _ hy)) i
      simp only [List.flatMap_cons, List.getElem?_cons_succ]
      rw [List.getElem?_append_right (by rw [hx, Nat.succ_mul]; omega), ← this, hx]
      congr 1
      rw [Nat.succ_mul]; omega

theorem flat_len {α : Type} {f : α → List Value} {s : Nat} (xs : List α) (hs : ∀ x ∈ xs, (f x).length = s) : (xs.flatMap f).length = xs.length * s := by
  induction xs with
  | nil => simp
  | cons x xs ih =>
    simp only [List.flatMap_cons, List.length_append, List.length_cons]
    rw [hs x (List.mem_cons_self ..), ih (fun y hy => hs y (List.mem_cons_of_mem _ hy)), Nat.succ_mul]; omega

theorem opens_slice {P : Program} {t e : TypeId} {s : Nat} (ht : P.underlying t = some (.slice e)) (hs : P.cellsOf e = s) (hpos : 0 < s) {α : Type} {put : α → List Value} {ok : World → α → Prop}
    (he : Opens P e α put ok) (hp : ∀ x, (put x).length = s) :
    Opens P t (Value × List α) (fun y => [y.1]) (fun W y => Rd W.heap.size W y.1 s y.2.length (y.2.flatMap put) ∧ y.2.length ≤ maxLen ∧ ∀ x ∈ y.2, ok W x) := by
  intro H enc W fuel cs x h hlt
  rcases open_slice ht h with ⟨rfl, rfl⟩ | ⟨a, len, cap, m, n, D, Pl, rfl, _, hl, hm, hmm, rfl, hel⟩
  · exact ⟨(.slice none 0 0, []), rfl, ⟨by simp, none, 0, rfl, Nat.le_refl _, Nat.zero_le _, fun _ => ⟨rfl, rfl⟩, fun h => by simp at h⟩, Nat.zero_le _, fun x hx => by simp at hx⟩
  · simp only [if_true] at hmm
    subst hmm
    have hone : ∀ i, i < len → ∃ y, W.cells? 0 (a.add (i * s)) s = some (put y) ∧ ok W y := by
      intro i hi
      obtain ⟨cs', h1, h2⟩ := hel i (by omega)
      obtain ⟨y, rfl, hy⟩ := he H enc W n cs' _ h2 (fun p hp' => hlt p (by
        simp only [List.mem_append, List.mem_flatMap]
        exact Or.inr ⟨i, by simp; omega, hp'⟩))
      rw [hs] at h1
      exact ⟨y, h1, hy⟩
    obtain ⟨f, hf⟩ : ∃ f : Nat → Option α, ∀ i, i < len → ∃ y, f i = some y ∧ W.cells? 0 (a.add (i * s)) s = some (put y) ∧ ok W y := by
      refine ⟨fun i => if h : i < len then some (Classical.choose (hone i h)) else none, fun i hi => ⟨Classical.choose (hone i hi), by simp [hi], Classical.choose_spec (hone i hi)⟩⟩
    have hxl : ((List.range len).filterMap f).length = len := by
      rw [List.length_filterMap_eq_countP, List.countP_eq_length.2]
      · simp
      · intro i hi
        obtain ⟨y, hy, _⟩ := hf i (by simpa using hi)
        simp [hy]
    have hget : ∀ i, i < len → ((List.range len).filterMap f)[i]? = f i := by
      clear hxl hone hel
      intro i hi
      have key : ∀ k, k ≤ len → (((List.range k).filterMap f).length = k ∧ ∀ i, i < k → ((List.range k).filterMap f)[i]? = f i) := by
        intro k
        induction k with
        | zero => intro _; simp
        | succ k ih =>
          intro hk
          obtain ⟨h1, h2⟩ := ih (by omega)
          obtain ⟨y, hy, _⟩ := hf k (by omega)
          have e : (List.range (k + 1)).filterMap f = (List.range k).filterMap f ++ [y] := by
            rw [List.range_succ, List.filterMap_append]; simp [hy]
          rw [e]
          refine ⟨by simp [h1], fun i hi => ?_⟩
          rcases Nat.lt_or_ge i k with h | h
          · rw [List.getElem?_append_left (by omega)]; exact h2 i h
          · obtain rfl : i = k := by omega
            rw [List.getElem?_append_right (by omega), h1]; simp [hy]
      exact (key len (Nat.le_refl _)).2 i hi
    generalize hxs : (List.range len).filterMap f = xs at hxl hget
    have hput : ∀ x ∈ xs, (put x).length = s := fun x _ => hp x
    have hcell : ∀ i, i < len * s → W.cell? (a.add i) = (xs.flatMap put)[i]? := by
      intro i hi
      have hi1 : i / s < len := Nat.div_lt_of_lt_mul (by rw [Nat.mul_comm]; exact hi)
      have hi2 : i % s < s := Nat.mod_lt _ hpos
      obtain ⟨y, hy, hc, _⟩ := hf (i / s) hi1
      have e : i = i / s * s + i % s := by rw [Nat.mul_comm]; exact (Nat.div_add_mod i s).symm
      have hc2 := (World.cells?_some hc).2.2 (i % s) hi2
      have ea : (a.add (i / s * s)).add (i % s) = a.add i := by
        rw [Addr.add_add, ← e]
      rw [ea] at hc2
      rw [hc2]
      conv => rhs; rw [e]
      rw [flat_get xs hput hi2, hget _ hi1, hy]
      rfl
    refine ⟨(.slice (some a) len m, xs), rfl, ⟨by rw [flat_len xs hput], some a, m, by simp [hxl], by simp [hxl]; omega, by omega, by simp, fun hn => ?_⟩, by simp [hxl]; omega, ?_⟩
    · have hlen : 0 < len := by simpa [hxl] using hn
      have h0 : 0 < len * s := Nat.mul_pos hlen hpos
      have hc0 := hcell 0 h0
      have hsome : ∃ u, W.cell? a = some u := by
        have : (xs.flatMap put)[0]? = some ((xs.flatMap put)[0]'(by rw [flat_len xs hput, hxl]; exact h0)) := List.getElem?_eq_getElem _
        rw [this] at hc0
        exact ⟨_, by simpa [Addr.add] using hc0⟩
      obtain ⟨u, hu⟩ := hsome
      have hspot : a.spot = none := by
        unfold World.cell? at hu
        split at hu
        · split at hu
          · cases hu
          · rename_i hns; simpa using hns
        · cases hu
      obtain ⟨b, off, sp⟩ := a
      simp only at hspot
      subst hspot
      refine ⟨b, off, rfl, ?_, fun i hi => ?_⟩
      · have := hlt (.cell b off) (by
          simp only [List.mem_append]
          refine Or.inl ?_
          simp only [MemPlace.row, List.mem_map, List.mem_range]
          exact ⟨0, by rw [hs]; exact Nat.mul_pos (by omega) hpos, by simp⟩)
        simpa [MemPlace.block] using this
      · have := hcell i (by simpa [hxl] using hi)
        rw [← this]
        unfold Addr.add
        split
        · rename_i h; subst h; rfl
        · rfl
    · intro x hx
      obtain ⟨i, hi⟩ := List.mem_iff_getElem?.1 hx
      have hil : i < len := by
        rw [← hxl]
        exact (List.getElem?_eq_some_iff.1 hi).1
      obtain ⟨y, hy, _, hok⟩ := hf i hil
      rw [hget i hil, hy] at hi
      cases hi
      exact hok

/-! ### structs -/
theorem drop_take {cs : List Value} {o k : Nat} {a b : List Value} (h1 : (cs.drop o).take k = a) (hk : a.length = k) (h2 : cs.drop (o + k) = b) : cs.drop o = a ++ b := by
  subst h1; subst h2
  rw [← List.drop_drop, List.take_append_drop]

theorem opens_struct2 {P : Program} {t : TypeId} {f0 f1 : Field} {k0 k1 : Nat} (ht : P.underlying t = some (.struct #[f0, f1])) (hC : P.cellsOf t = k0 + k1)
    (h0 : P.cellsOf f0.type = k0 ∧ f0.offset = 0) (h1 : P.cellsOf f1.type = k1 ∧ f1.offset = k0)
    {α0 α1 : Type} {put0 : α0 → List Value} {put1 : α1 → List Value} {ok0 : World → α0 → Prop} {ok1 : World → α1 → Prop}
    (o0 : Opens P f0.type α0 put0 ok0) (o1 : Opens P f1.type α1 put1 ok1) (l0 : ∀ x, (put0 x).length = k0) (l1 : ∀ x, (put1 x).length = k1) :
    Opens P t (α0 × α1) (fun y => put0 y.1 ++ put1 y.2) (fun W y => ok0 W y.1 ∧ ok1 W y.2) := by
  intro H enc W fuel cs x h hlt
  obtain ⟨xs, n, rfl, rfl, hl, hlen, hf⟩ := DataW.trod_struct ht h
  obtain ⟨y0, y1, rfl⟩ : ∃ y0 y1, xs = [y0, y1] := by
    match xs, hlen with
    | [y0, y1], _ => exact ⟨y0, y1, rfl⟩
  have e0 := hf 0 f0 rfl
  have e1 := hf 1 f1 rfl
  simp only [List.getElem?_cons_zero, List.getElem?_cons_succ, h0.1, h0.2, h1.1, h1.2] at e0 e1
  obtain ⟨x0, p0, q0⟩ := o0 H enc W n _ _ e0 (fun p hp => hlt p (by simp [hp]))
  obtain ⟨x1, p1, q1⟩ := o1 H enc W n _ _ e1 (fun p hp => hlt p (by simp [hp]))
  refine ⟨(x0, x1), ?_, q0, q1⟩
  have r0 := drop_take (b := cs.drop (0 + k0)) p0 (l0 x0) rfl
  rw [Nat.zero_add] at r0
  have r1 := drop_take (b := cs.drop (k0 + k1)) p1 (l1 x1) rfl
  rw [show cs.drop (k0 + k1) = [] from List.drop_eq_nil_of_le (by omega), List.append_nil] at r1
  rw [r1, List.drop_zero] at r0
  exact r0

theorem opens_struct3 {P : Program} {t : TypeId} {f0 f1 f2 : Field} {k0 k1 k2 : Nat} (ht : P.underlying t = some (.struct #[f0, f1, f2])) (hC : P.cellsOf t = k0 + k1 + k2)
    (h0 : P.cellsOf f0.type = k0 ∧ f0.offset = 0) (h1 : P.cellsOf f1.type = k1 ∧ f1.offset = k0) (h2 : P.cellsOf f2.type = k2 ∧ f2.offset = k0 + k1)
    {α0 α1 α2 : Type} {put0 : α0 → List Value} {put1 : α1 → List Value} {put2 : α2 → List Value} {ok0 : World → α0 → Prop} {ok1 : World → α1 → Prop} {ok2 : World → α2 → Prop}
    (o0 : Opens P f0.type α0 put0 ok0) (o1 : Opens P f1.type α1 put1 ok1) (o2 : Opens P f2.type α2 put2 ok2) (l0 : ∀ x, (put0 x).length = k0) (l1 : ∀ x, (put1 x).length = k1) (l2 : ∀ x, (put2 x).length = k2) :
    Opens P t (α0 × α1 × α2) (fun y => put0 y.1 ++ (put1 y.2.1 ++ put2 y.2.2)) (fun W y => ok0 W y.1 ∧ ok1 W y.2.1 ∧ ok2 W y.2.2) := by
  intro H enc W fuel cs x h hlt
  obtain ⟨xs, n, rfl, rfl, hl, hlen, hf⟩ := DataW.trod_struct ht h
  obtain ⟨y0, y1, y2, rfl⟩ : ∃ y0 y1 y2, xs = [y0, y1, y2] := by
    match xs, hlen with
    | [y0, y1, y2], _ => exact ⟨y0, y1, y2, rfl⟩
  have e0 := hf 0 f0 rfl
  have e1 := hf 1 f1 rfl
  have e2 := hf 2 f2 rfl
  simp only [List.getElem?_cons_zero, List.getElem?_cons_succ, h0.1, h0.2, h1.1, h1.2, h2.1, h2.2] at e0 e1 e2
  obtain ⟨x0, p0, q0⟩ := o0 H enc W n _ _ e0 (fun p hp => hlt p (by simp [hp]))
  obtain ⟨x1, p1, q1⟩ := o1 H enc W n _ _ e1 (fun p hp => hlt p (by simp [hp]))
  obtain ⟨x2, p2, q2⟩ := o2 H enc W n _ _ e2 (fun p hp => hlt p (by simp [hp]))
  refine ⟨(x0, x1, x2), ?_, q0, q1, q2⟩
  have r0 := drop_take (b := cs.drop (0 + k0)) p0 (l0 x0) rfl
  rw [Nat.zero_add] at r0
  have r1 := drop_take (b := cs.drop (k0 + k1)) p1 (l1 x1) rfl
  have r2 := drop_take (b := cs.drop (k0 + k1 + k2)) p2 (l2 x2) rfl
  rw [show cs.drop (k0 + k1 + k2) = [] from List.drop_eq_nil_of_le (by omega), List.append_nil] at r2
  rw [r1, r2, List.drop_zero] at r0
  exact r0

theorem opens_struct5 {P : Program} {t : TypeId} {f0 f1 f2 f3 f4 : Field} {k0 k1 k2 k3 k4 : Nat} (ht : P.underlying t = some (.struct #[f0, f1, f2, f3, f4])) (hC : P.cellsOf t = k0 + k1 + k2 + k3 + k4)
    (h0 : P.cellsOf f0.type = k0 ∧ f0.offset = 0) (h1 : P.cellsOf f1.type = k1 ∧ f1.offset = k0) (h2 : P.cellsOf f2.type = k2 ∧ f2.offset = k0 + k1) (h3 : P.cellsOf f3.type = k3 ∧ f3.offset = k0 + k1 + k2) (h4 : P.cellsOf f4.type = k4 ∧ f4.offset = k0 + k1 + k2 + k3)
    {α0 α1 α2 α3 α4 : Type} {put0 : α0 → List Value} {put1 : α1 → List Value} {put2 : α2 → List Value} {put3 : α3 → List Value} {put4 : α4 → List Value}
    {ok0 : World → α0 → Prop} {ok1 : World → α1 → Prop} {ok2 : World → α2 → Prop} {ok3 : World → α3 → Prop} {ok4 : World → α4 → Prop}
    (o0 : Opens P f0.type α0 put0 ok0) (o1 : Opens P f1.type α1 put1 ok1) (o2 : Opens P f2.type α2 put2 ok2) (o3 : Opens P f3.type α3 put3 ok3) (o4 : Opens P f4.type α4 put4 ok4)
    (l0 : ∀ x, (put0 x).length = k0) (l1 : ∀ x, (put1 x).length = k1) (l2 : ∀ x, (put2 x).length = k2) (l3 : ∀ x, (put3 x).length = k3) (l4 : ∀ x, (put4 x).length = k4) :
    Opens P t (α0 × α1 × α2 × α3 × α4) (fun y => put0 y.1 ++ (put1 y.2.1 ++ (put2 y.2.2.1 ++ (put3 y.2.2.2.1 ++ put4 y.2.2.2.2)))) (fun W y => ok0 W y.1 ∧ ok1 W y.2.1 ∧ ok2 W y.2.2.1 ∧ ok3 W y.2.2.2.1 ∧ ok4 W y.2.2.2.2) := by
  intro H enc W fuel cs x h hlt
  obtain ⟨xs, n, rfl, rfl, hl, hlen, hf⟩ := DataW.trod_struct ht h
  obtain ⟨y0, y1, y2, y3, y4, rfl⟩ : ∃ y0 y1 y2 y3 y4, xs = [y0, y1, y2, y3, y4] := by
    match xs, hlen with
    | [y0, y1, y2, y3, y4], _ => exact ⟨y0, y1, y2, y3, y4, rfl⟩
  have e0 := hf 0 f0 rfl
  have e1 := hf 1 f1 rfl
  have e2 := hf 2 f2 rfl
  have e3 := hf 3 f3 rfl
  have e4 := hf 4 f4 rfl
  simp only [List.getElem?_cons_zero, List.getElem?_cons_succ, h0.1, h0.2, h1.1, h1.2, h2.1, h2.2, h3.1, h3.2, h4.1, h4.2] at e0 e1 e2 e3 e4
  obtain ⟨x0, p0, q0⟩ := o0 H enc W n _ _ e0 (fun p hp => hlt p (by simp [hp]))
  obtain ⟨x1, p1, q1⟩ := o1 H enc W n _ _ e1 (fun p hp => hlt p (by simp [hp]))
  obtain ⟨x2, p2, q2⟩ := o2 H enc W n _ _ e2 (fun p hp => hlt p (by simp [hp]))
  obtain ⟨x3, p3, q3⟩ := o3 H enc W n _ _ e3 (fun p hp => hlt p (by simp [hp]))
  obtain ⟨x4, p4, q4⟩ := o4 H enc W n _ _ e4 (fun p hp => hlt p (by simp [hp]))
  refine ⟨(x0, x1, x2, x3, x4), ?_, q0, q1, q2, q3, q4⟩
  have r0 := drop_take (b := cs.drop (0 + k0)) p0 (l0 x0) rfl
  rw [Nat.zero_add] at r0
  have r1 := drop_take (b := cs.drop (k0 + k1)) p1 (l1 x1) rfl
  have r2 := drop_take (b := cs.drop (k0 + k1 + k2)) p2 (l2 x2) rfl
  have r3 := drop_take (b := cs.drop (k0 + k1 + k2 + k3)) p3 (l3 x3) rfl
  have r4 := drop_take (b := cs.drop (k0 + k1 + k2 + k3 + k4)) p4 (l4 x4) rfl
  rw [show cs.drop (k0 + k1 + k2 + k3 + k4) = [] from List.drop_eq_nil_of_le (by omega), List.append_nil] at r4
  rw [r1, r2, r3, r4, List.drop_zero] at r0
  exact r0

/-- a reading in other words -/
theorem Opens.map {P : Program} {t : TypeId} {α β : Type} {put : α → List Value} {ok : World → α → Prop} (h : Opens P t α put ok) (f : α → β) {put' : β → List Value} {ok' : World → β → Prop}
    (hp : ∀ x, put x = put' (f x)) (hok : ∀ W x, ok W x → ok' W (f x)) : Opens P t β put' ok' := by
  intro H enc W fuel cs x hx hlt
  obtain ⟨y, rfl, hy⟩ := h H enc W fuel cs x hx hlt
  exact ⟨f y, hp y, hok W y hy⟩

/-! ### one argument -/
theorem arg_struct {P : Program} {t : TypeId} {fs : Array Field} (ht : P.underlying t = some (.struct fs)) {α : Type} {put : α → List Value} {ok : World → α → Prop} (ho : Opens P t α put ok)
    {H : Type} {enc : TypeId × Value → H} {W : World} {r : Reach} {b0 : Nat} {v : Value} {d : DataW H} {p : List MemPlace} (hv : Value.okWide P W r b0 t v) (h : DataW.Trod enc P W 0 (fun _ => true) true t v d p)
    (hlt : ∀ x ∈ p, x.block < W.heap.size) : ∃ y, v = .agg (put y).toArray ∧ ok W y := by
  obtain ⟨cs, rfl, _⟩ := okWide_struct ht hv
  obtain ⟨fuel, hf⟩ := h
  obtain ⟨y, h1, h2⟩ := ho H enc W fuel _ _ hf hlt
  refine ⟨y, ?_, h2⟩
  simp only [Value.cells] at h1
  rw [← h1]

theorem arg_slice {P : Program} {t e : TypeId} (ht : P.underlying t = some (.slice e)) {α : Type} {ok : World → Value × α → Prop} (ho : Opens P t (Value × α) (fun y => [y.1]) ok)
    {H : Type} {enc : TypeId × Value → H} {W : World} {r : Reach} {b0 : Nat} {v : Value} {d : DataW H} {p : List MemPlace} (hv : Value.okWide P W r b0 t v) (h : DataW.Trod enc P W 0 (fun _ => true) true t v d p)
    (hlt : ∀ x ∈ p, x.block < W.heap.size) : ∃ xs, ok W (v, xs) := by
  obtain ⟨a, len, cap, rfl⟩ := okWide_slice ht hv
  obtain ⟨fuel, hf⟩ := h
  obtain ⟨⟨v, xs⟩, h1, h2⟩ := ho H enc W fuel _ _ hf hlt
  simp only [Value.cells] at h1
  obtain rfl : Value.slice a len cap = v := by simpa using h1
  exact ⟨xs, h2⟩

theorem arg_i64 {P : Program} {t : TypeId} (ht : P.underlying t = some (.int .i64)) 
    {H : Type} {enc : TypeId × Value → H} {W : World} {r : Reach} {b0 : Nat} {v : Value} {d : DataW H} {p : List MemPlace} (hv : Value.okWide P W r b0 t v) (h : DataW.Trod enc P W 0 (fun _ => true) true t v d p) :
    ∃ n, v = .int .i64 n ∧ I64 n := by
  obtain ⟨n, rfl, _, _, hw⟩ := open_int ht hv h
  exact ⟨n, rfl, by simpa [I64, Lit.wf, IntKind.min, IntKind.max, IntKind.signed, IntKind.bits] using hw⟩

theorem arg_str {P : Program} {t : TypeId} (ht : P.underlying t = some .string) 
    {H : Type} {enc : TypeId × Value → H} {W : World} {r : Reach} {b0 : Nat} {v : Value} {d : DataW H} {p : List MemPlace} (hv : Value.okWide P W r b0 t v) (h : DataW.Trod enc P W 0 (fun _ => true) true t v d p) :
    ∃ s : ByteArray, v = .string s ∧ s.size ≤ maxLen := by
  obtain ⟨s, rfl⟩ := okWide_string ht hv
  obtain ⟨fuel, hf⟩ := h
  obtain ⟨s', h1, _, h2⟩ := DataW.trod_string ht hf
  simp only [Value.cells] at h1
  obtain rfl : s = s' := by simpa using h1
  exact ⟨s, rfl, h2⟩

/-! ### THE PROGRAM's STRUCTS -/
structure Spot where
  angle : Int
  weight : Int
def Spot.put (x : Spot) : List Value := [.int .i64 x.angle, .int .i64 x.weight]
def Spot.ok (x : Spot) : Prop := I64 x.angle ∧ I64 x.weight

structure Alloy where
  copper : Int
  tin : Int
  other : Int
def Alloy.put (x : Alloy) : List Value := [.int .i64 x.copper, .int .i64 x.tin, .int .i64 x.other]
def Alloy.ok (x : Alloy) : Prop := I64 x.copper ∧ I64 x.tin ∧ I64 x.other

structure Ingot where
  id : ByteArray
  mass : Int
  alloy : Alloy
def Ingot.put (x : Ingot) : List Value := [.string x.id, .int .i64 x.mass, .int .i64 x.alloy.copper, .int .i64 x.alloy.tin, .int .i64 x.alloy.other]
def Ingot.ok (x : Ingot) : Prop := x.id.size ≤ maxLen ∧ I64 x.mass ∧ x.alloy.ok

structure Demand where
  least : Int
  most : Int
  minTin : Int
  maxTin : Int
  other : Int
def Demand.put (x : Demand) : List Value := [.int .i64 x.least, .int .i64 x.most, .int .i64 x.minTin, .int .i64 x.maxTin, .int .i64 x.other]
def Demand.ok (x : Demand) : Prop := I64 x.least ∧ I64 x.most ∧ I64 x.minTin ∧ I64 x.maxTin ∧ I64 x.other

structure Measure where
  bell : ByteArray
  part : Int
  value : Int
def Measure.put (x : Measure) : List Value := [.string x.bell, .int .i64 x.part, .int .i64 x.value]
def Measure.ok (x : Measure) : Prop := x.bell.size ≤ maxLen ∧ I64 x.part ∧ I64 x.value

structure Hole where
  name : ByteArray
  radius : Int
  depth : Int
def Hole.put (x : Hole) : List Value := [.string x.name, .int .i64 x.radius, .int .i64 x.depth]
def Hole.ok (x : Hole) : Prop := x.name.size ≤ maxLen ∧ I64 x.radius ∧ I64 x.depth

structure Ring where
  outer : Int
  inner : Int
  height : Int
def Ring.put (x : Ring) : List Value := [.int .i64 x.outer, .int .i64 x.inner, .int .i64 x.height]
def Ring.ok (x : Ring) : Prop := I64 x.outer ∧ I64 x.inner ∧ I64 x.height

/-- a profile: its list of rings as a value, and what it holds -/
structure Profile where
  name : ByteArray
  list : Value
  rings : List Ring
def Profile.put (x : Profile) : List Value := [.string x.name, x.list]
def Profile.ok (W : World) (x : Profile) : Prop := x.name.size ≤ maxLen ∧ Rd W.heap.size W x.list 3 x.rings.length (x.rings.flatMap Ring.put) ∧ x.rings.length ≤ maxLen ∧ ∀ r ∈ x.rings, r.ok

def putStr (s : ByteArray) : List Value := [.string s]
structure Melt where
  id : ByteArray
  list : Value
  ingots : List ByteArray
  mass : Int
def Melt.put (x : Melt) : List Value := [.string x.id, x.list, .int .i64 x.mass]
def Melt.ok (W : World) (x : Melt) : Prop := x.id.size ≤ maxLen ∧ (Rd W.heap.size W x.list 1 x.ingots.length (x.ingots.flatMap putStr) ∧ x.ingots.length ≤ maxLen ∧ ∀ s ∈ x.ingots, s.size ≤ maxLen) ∧ I64 x.mass

section
variable {P : Program} {t : TypeId}
/-- a field of one cell -/
def One (P : Program) (f : Field) (k : Nat) (d : TypeDesc) : Prop := P.underlying f.type = some d ∧ P.cellsOf f.type = 1 ∧ f.offset = k

theorem opens_spot {f0 f1 : Field} (ht : P.underlying t = some (.struct #[f0, f1])) (hC : P.cellsOf t = 2) (h0 : One P f0 0 (.int .i64)) (h1 : One P f1 1 (.int .i64)) :
    Opens P t Spot Spot.put (fun _ x => x.ok) :=
  (opens_struct2 (k0 := 1) (k1 := 1) ht hC h0.2 h1.2 (opens_i64 h0.1) (opens_i64 h1.1) (fun _ => rfl) (fun _ => rfl)).map (fun y => (⟨y.1, y.2⟩ : Spot)) (fun _ => rfl) (by intro W x h; exact h)

theorem opens_alloy {f0 f1 f2 : Field} (ht : P.underlying t = some (.struct #[f0, f1, f2])) (hC : P.cellsOf t = 3) (h0 : One P f0 0 (.int .i64)) (h1 : One P f1 1 (.int .i64)) (h2 : One P f2 2 (.int .i64)) :
    Opens P t Alloy Alloy.put (fun _ x => x.ok) :=
  (opens_struct3 (k0 := 1) (k1 := 1) (k2 := 1) ht hC h0.2 h1.2 h2.2 (opens_i64 h0.1) (opens_i64 h1.1) (opens_i64 h2.1) (fun _ => rfl) (fun _ => rfl) (fun _ => rfl)).map (fun y => (⟨y.1, y.2.1, y.2.2⟩ : Alloy)) (fun _ => rfl) (by intro W x h; exact h)

theorem opens_ring {f0 f1 f2 : Field} (ht : P.underlying t = some (.struct #[f0, f1, f2])) (hC : P.cellsOf t = 3) (h0 : One P f0 0 (.int .i64)) (h1 : One P f1 1 (.int .i64)) (h2 : One P f2 2 (.int .i64)) :
    Opens P t Ring Ring.put (fun _ x => x.ok) :=
  (opens_struct3 (k0 := 1) (k1 := 1) (k2 := 1) ht hC h0.2 h1.2 h2.2 (opens_i64 h0.1) (opens_i64 h1.1) (opens_i64 h2.1) (fun _ => rfl) (fun _ => rfl) (fun _ => rfl)).map (fun y => (⟨y.1, y.2.1, y.2.2⟩ : Ring)) (fun _ => rfl) (by intro W x h; exact h)

theorem opens_measure {f0 f1 f2 : Field} (ht : P.underlying t = some (.struct #[f0, f1, f2])) (hC : P.cellsOf t = 3) (h0 : One P f0 0 .string) (h1 : One P f1 1 (.int .i64)) (h2 : One P f2 2 (.int .i64)) :
    Opens P t Measure Measure.put (fun _ x => x.ok) :=
  (opens_struct3 (k0 := 1) (k1 := 1) (k2 := 1) ht hC h0.2 h1.2 h2.2 (opens_str h0.1) (opens_i64 h1.1) (opens_i64 h2.1) (fun _ => rfl) (fun _ => rfl) (fun _ => rfl)).map (fun y => (⟨y.1, y.2.1, y.2.2⟩ : Measure)) (fun _ => rfl) (by intro W x h; exact h)

theorem opens_hole {f0 f1 f2 : Field} (ht : P.underlying t = some (.struct #[f0, f1, f2])) (hC : P.cellsOf t = 3) (h0 : One P f0 0 .string) (h1 : One P f1 1 (.int .i64)) (h2 : One P f2 2 (.int .i64)) :
    Opens P t Hole Hole.put (fun _ x => x.ok) :=
  (opens_struct3 (k0 := 1) (k1 := 1) (k2 := 1) ht hC h0.2 h1.2 h2.2 (opens_str h0.1) (opens_i64 h1.1) (opens_i64 h2.1) (fun _ => rfl) (fun _ => rfl) (fun _ => rfl)).map (fun y => (⟨y.1, y.2.1, y.2.2⟩ : Hole)) (fun _ => rfl) (by intro W x h; exact h)

theorem opens_demand {f0 f1 f2 f3 f4 : Field} (ht : P.underlying t = some (.struct #[f0, f1, f2, f3, f4])) (hC : P.cellsOf t = 5) (h0 : One P f0 0 (.int .i64)) (h1 : One P f1 1 (.int .i64)) (h2 : One P f2 2 (.int .i64)) (h3 : One P f3 3 (.int .i64)) (h4 : One P f4 4 (.int .i64)) :
    Opens P t Demand Demand.put (fun _ x => x.ok) :=
  (opens_struct5 (k0 := 1) (k1 := 1) (k2 := 1) (k3 := 1) (k4 := 1) ht hC h0.2 h1.2 h2.2 h3.2 h4.2 (opens_i64 h0.1) (opens_i64 h1.1) (opens_i64 h2.1) (opens_i64 h3.1) (opens_i64 h4.1) (fun _ => rfl) (fun _ => rfl) (fun _ => rfl) (fun _ => rfl) (fun _ => rfl)).map (fun y => (⟨y.1, y.2.1, y.2.2.1, y.2.2.2.1, y.2.2.2.2⟩ : Demand)) (fun _ => rfl) (by intro W x h; exact h)

theorem opens_ingot {f0 f1 f2 : Field} (ht : P.underlying t = some (.struct #[f0, f1, f2])) (hC : P.cellsOf t = 5) (h0 : One P f0 0 .string) (h1 : One P f1 1 (.int .i64)) (h2 : P.cellsOf f2.type = 3 ∧ f2.offset = 2)
    (ha : Opens P f2.type Alloy Alloy.put (fun _ x => x.ok)) :
    Opens P t Ingot Ingot.put (fun _ x => x.ok) :=
  (opens_struct3 (k0 := 1) (k1 := 1) (k2 := 3) ht hC h0.2 h1.2 h2 (opens_str h0.1) (opens_i64 h1.1) ha (fun _ => rfl) (fun _ => rfl) (fun _ => rfl)).map (fun y => (⟨y.1, y.2.1, y.2.2⟩ : Ingot)) (fun _ => rfl) (by intro W x h; exact h)

theorem opens_profile {f0 f1 : Field} {e : TypeId} (ht : P.underlying t = some (.struct #[f0, f1])) (hC : P.cellsOf t = 2) (h0 : One P f0 0 .string) (h1 : One P f1 1 (.slice e)) (hE : P.cellsOf e = 3) (he : Opens P e Ring Ring.put (fun _ x => x.ok)) :
    Opens P t Profile Profile.put Profile.ok :=
  (opens_struct2 (k0 := 1) (k1 := 1) ht hC h0.2 h1.2 (opens_str h0.1) (opens_slice h1.1 hE (by decide) he (fun _ => rfl)) (fun _ => rfl) (fun _ => rfl)).map (fun y => (⟨y.1, y.2.1, y.2.2⟩ : Profile)) (fun _ => rfl) (by intro W x h; exact h)

theorem opens_melt {f0 f1 f2 : Field} {e : TypeId} (ht : P.underlying t = some (.struct #[f0, f1, f2])) (hC : P.cellsOf t = 3) (h0 : One P f0 0 .string) (h1 : One P f1 1 (.slice e)) (h2 : One P f2 2 (.int .i64)) (hE : P.cellsOf e = 1) (he : P.underlying e = some .string) :
    Opens P t Melt Melt.put Melt.ok :=
  (opens_struct3 (k0 := 1) (k1 := 1) (k2 := 1) ht hC h0.2 h1.2 h2.2 (opens_str h0.1) (opens_slice h1.1 hE (by decide) (opens_str he) (fun _ => rfl)) (opens_i64 h2.1) (fun _ => rfl) (fun _ => rfl) (fun _ => rfl)).map (fun y => (⟨y.1, y.2.1.1, y.2.1.2, y.2.2⟩ : Melt)) (fun _ => rfl) (by intro W x h; exact h)
end
end Go.Proofs.YtcjekailcljaaaaGreat
