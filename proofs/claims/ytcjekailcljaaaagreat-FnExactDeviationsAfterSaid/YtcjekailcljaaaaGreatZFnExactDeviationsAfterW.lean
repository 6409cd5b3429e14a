/- Contracts and plain facts, joined: LawZ. -/
import Derived.Test.YtcjekailcljaaaaGreatRows
import Derived.Test.YtcjekailcljaaaaGreatZFnExactDeviationsAfterC
import Derived.Test.YtcjekailcljaaaaGreatZFnExactDeviationsAfterD
import Derived.Test.YtcjekailcljaaaaGreatZFnExactDeviationsAfterE
import Derived.Test.YtcjekailcljaaaaGreatZFnExactDeviationsAfterF
import Derived.Test.YtcjekailcljaaaaGreatZFnExactDeviationsAfterI
import Derived.Test.YtcjekailcljaaaaGreatZFnExactDeviationsAfterJ
import Derived.Test.YtcjekailcljaaaaGreatZFnExactDeviationsAfterK
import Derived.Test.YtcjekailcljaaaaGreatZFnExactDeviationsAfterM
import Derived.Test.YtcjekailcljaaaaGreatZFnExactDeviationsAfterN
import Derived.Test.YtcjekailcljaaaaGreatZFnExactDeviationsAfterV
namespace Go.Proofs.YtcjekailcljaaaaGreat
open Go.ChangeShapes Go.WideShapes Go.ChangeAt Go.RowKit Go.Deep Go.Joins
set_option linter.unusedVariables false
set_option maxRecDepth 100000
set_option linter.unusedSimpArgs false
def mdlOf (a : MdlX) : Mdl := ⟨a.zones, a.rows.map Prod.snd, a.base⟩
def ArgZ (w0 w : World) (m p q : Nat) (a0 : MdlX) (a1 : Profile) (a2 : GoalX) : Prop :=
  Below w0.heap.size w0 w ∧ Own w m 25 a0.put ∧ Own w p 28 a1.put ∧ Own w q 32 a2.put
def CellsM (w : World) (m : Nat) (a0 : MdlX) : Prop := w.cell? ⟨m, 0, none⟩ = some a0.zv ∧ w.cell? ⟨m, 1, none⟩ = some a0.wv ∧ w.cell? ⟨m, 2, none⟩ = some a0.bv
section
variable {w0 w w' : World} {m p q lo hi : Nat} {a0 : MdlX} {a1 : Profile} {a2 : GoalX}
theorem ArgZ.below (h : ArgZ w0 w m p q a0 a1 a2) (b : Below w.heap.size w w') : ArgZ w0 w' m p q a0 a1 a2 :=
  ⟨bnext h.1 b, h.2.1.below b h.2.1.lt, h.2.2.1.below b h.2.2.1.lt, h.2.2.2.below b h.2.2.2.lt⟩
theorem ArgZ.turn (h : ArgZ w0 w m p q a0 a1 a2) (t : Turn lo hi w w') (h0 : w0.heap.size ≤ lo) (hm : m < lo) (hp : p < lo) (hq : q < lo) : ArgZ w0 w' m p q a0 a1 a2 :=
  ⟨h.1.trans (t.below h0 h.1.size), h.2.1.turn t (.inl hm), h.2.2.1.turn t (.inl hp), h.2.2.2.turn t (.inl hq)⟩
theorem ArgZ.lm (h : ArgZ w0 w m p q a0 a1 a2) : m < w.heap.size := h.2.1.lt
theorem ArgZ.lp (h : ArgZ w0 w m p q a0 a1 a2) : p < w.heap.size := h.2.2.1.lt
theorem ArgZ.lq (h : ArgZ w0 w m p q a0 a1 a2) : q < w.heap.size := h.2.2.2.lt
theorem ArgZ.m0 (h : ArgZ w0 w m p q a0 a1 a2) : w.cell? ⟨m, 0, none⟩ = some a0.zv := h.2.1.cell 0
theorem ArgZ.m1 (h : ArgZ w0 w m p q a0 a1 a2) : w.cell? ⟨m, 1, none⟩ = some a0.wv := h.2.1.cell 1
theorem ArgZ.m2 (h : ArgZ w0 w m p q a0 a1 a2) : w.cell? ⟨m, 2, none⟩ = some a0.bv := h.2.1.cell 2
theorem ArgZ.p0 (h : ArgZ w0 w m p q a0 a1 a2) : w.cell? ⟨p, 0, none⟩ = some (.string a1.name) := h.2.2.1.cell 0
theorem ArgZ.p1 (h : ArgZ w0 w m p q a0 a1 a2) : w.cell? ⟨p, 1, none⟩ = some a1.list := h.2.2.1.cell 1
theorem ArgZ.q0 (h : ArgZ w0 w m p q a0 a1 a2) : w.cell? ⟨q, 0, none⟩ = some (.int .i64 a2.a) := h.2.2.2.cell 0
theorem ArgZ.q1 (h : ArgZ w0 w m p q a0 a1 a2) : w.cell? ⟨q, 1, none⟩ = some (.int .i64 a2.b) := h.2.2.2.cell 1
theorem ArgZ.q2 (h : ArgZ w0 w m p q a0 a1 a2) : w.cell? ⟨q, 2, none⟩ = some (.int .i64 a2.c) := h.2.2.2.cell 2
theorem ArgZ.q3 (h : ArgZ w0 w m p q a0 a1 a2) : w.cell? ⟨q, 3, none⟩ = some (.int .i64 a2.d) := h.2.2.2.cell 3
theorem ArgZ.q4 (h : ArgZ w0 w m p q a0 a1 a2) : w.cell? ⟨q, 4, none⟩ = some (.int .i64 a2.e) := h.2.2.2.cell 4
theorem ArgZ.q5 (h : ArgZ w0 w m p q a0 a1 a2) : w.cell? ⟨q, 5, none⟩ = some (.int .i64 a2.tol) := h.2.2.2.cell 5
theorem ArgZ.q6 (h : ArgZ w0 w m p q a0 a1 a2) : w.cell? ⟨q, 6, none⟩ = some (.int .i64 a2.most) := h.2.2.2.cell 6
end
/-- a copy of a model, in blocks gz < gw .. gb of its own -/
def CopM (w : World) (gz gw gb : Nat) (ys : List Row) (a : MdlX) : Prop := gz < gw ∧ RowsIn gw gb w gw ys a.rows ∧ Own w gz 2 (a.zones.flatMap putI) ∧ Own w gb 2 (a.base.flatMap putI)
section
variable {w w' : World} {gz gw gb lo hi : Nat} {ys : List Row} {a : MdlX}
theorem CopM.turn (h : CopM w gz gw gb ys a) (t : Turn lo hi w w') (hd : gb < lo ∨ hi ≤ gz) : CopM w' gz gw gb ys a := by
  have hwb : gw < gb := h.2.1.2.2.1
  have hz := h.1
  exact ⟨h.1, h.2.1.turn t (by omega), h.2.2.1.turn t (by omega), h.2.2.2.turn t (by omega)⟩
theorem CopM.below (h : CopM w gz gw gb ys a) (b : Below w.heap.size w w') : CopM w' gz gw gb ys a := by
  have hl := h.2.2.2.lt
  exact h.turn (Turn.of_below (lo := w.heap.size) (hi := w.heap.size) b) (.inl hl)
theorem CopM.rd (h : CopM w gz gw gb ys a) (hz : a.zones.length ≤ 1048576) (hn : a.rows.length ≤ 1048576) (hi : ∀ x ∈ a.rows, x.2.length ≤ 1048576) (hb : a.base.length ≤ 1048576) :
    RdMdl w.heap.size w (.slice (some ⟨gz, 0, none⟩) a.zones.length a.zones.length) (.slice (some ⟨gw, 0, none⟩) a.rows.length a.rows.length) (.slice (some ⟨gb, 0, none⟩) a.base.length a.base.length) (mdlOf a) :=
  ⟨h.2.2.1.rd h.2.2.1.lt (putI_len _) (by unfold maxLen; omega) _ (Nat.le_refl _) (by unfold maxLen; omega), h.2.1.1.rdl hn hi, h.2.2.2.rd h.2.2.2.lt (putI_len _) (by unfold maxLen; omega) _ (Nat.le_refl _) (by unfold maxLen; omega)⟩
end
theorem toModelC (x : MdlX) (w : World) (h : x.ok w) (hzn : x.zones.length ≤ 1048576) (hwn : x.rows.length ≤ 1048576) (hrn : ∀ y ∈ x.rows, y.2.length ≤ 1048576) (hbn : x.base.length ≤ 1048576) :
    Calls Tryz.prog 9 #[.agg #[x.zv, x.wv, x.bv]] w fun e w' => ∃ gz gw gb ys, e = .returned (.agg #[.slice (some ⟨gz, 0, none⟩) x.zones.length x.zones.length, .slice (some ⟨gw, 0, none⟩) x.rows.length x.rows.length, .slice (some ⟨gb, 0, none⟩) x.base.length x.base.length]) ∧ w.heap.size ≤ gz ∧ CopM w' gz gw gb ys x ∧ Below w.heap.size w w' :=
  (toModel x w h hzn hwn hrn hbn).mono fun e w' ⟨gz, gw, gb, ys, he, h1, h2, h3, h4, h5, h6, h7, h8⟩ => ⟨gz, gw, gb, ys, he, h1, ⟨h2, ⟨h6, Nat.le_refl _, h3, h4⟩, h5, h7⟩, h8⟩
theorem eqModelC (w : World) (g1 h1 k1 g2 h2 k2 : Nat) (ys zs : List Row) (a : MdlX) (c1 : CopM w g1 h1 k1 ys a) (c2 : CopM w g2 h2 k2 zs a) (hz : a.zones.length ≤ 1048576) (hn : a.rows.length ≤ 1048576) (hi : ∀ x ∈ a.rows, x.2.length ≤ 1048576) (hb : a.base.length ≤ 1048576) :
    Calls Tryz.prog 15 #[.agg #[.slice (some ⟨g1, 0, none⟩) a.zones.length a.zones.length, .slice (some ⟨h1, 0, none⟩) a.rows.length a.rows.length, .slice (some ⟨k1, 0, none⟩) a.base.length a.base.length], .agg #[.slice (some ⟨g2, 0, none⟩) a.zones.length a.zones.length, .slice (some ⟨h2, 0, none⟩) a.rows.length a.rows.length, .slice (some ⟨k2, 0, none⟩) a.base.length a.base.length]] w fun e w' => e = .returned (.bool true) ∧ Below w.heap.size w w' :=
  eqModel w g1 h1 k1 g2 h2 k2 a.zones a.base ys zs a.rows c1.2.2.1 c2.2.2.1 c1.2.1.1 c2.2.1.1 c1.2.2.2 c2.2.2.2 hz hn hi hb
theorem markModelC (k : Int) (w : World) (gz gw gb : Nat) (ys : List Row) (a : MdlX) (h : CopM w gz gw gb ys a) (hz : a.zones.length ≤ 1048576) (hn : a.rows.length ≤ 1048576) (hc : wtRows a.rows ≤ 1048576) (hb : a.base.length ≤ 1048576) (h1 : 1 ≤ k) (hk : k ≤ 134217728) :
    Calls Tryz.prog 18 #[.agg #[.slice (some ⟨gz, 0, none⟩) a.zones.length a.zones.length, .slice (some ⟨gw, 0, none⟩) a.rows.length a.rows.length, .slice (some ⟨gb, 0, none⟩) a.base.length a.base.length], .int .i64 k] w fun e w' => e = .returned (.int .i64 (k + 1 * (a.zones.length : Int) + (wtRows a.rows : Int) + 1 * (a.base.length : Int))) ∧ Turn gz (gb + 1) w w' :=
  markModel k w gz (gb + 1) gz gw gb a.zones a.base ys a.rows h.2.2.1 h.2.1 h.2.2.2 (Nat.le_refl _) h.1 (Nat.lt_succ_self _) h.2.2.2.lt hz hn hc hb h1 hk
/-- a list in a block of its own that a call has made, read -/
theorem own_ring {w : World} {g : Nat} {xs : List Ring} (h : Own w g 123 (xs.flatMap Ring.put)) (hn : xs.length ≤ 1048576) : RdR w (some ⟨g, 0, none⟩) xs.length xs :=
  h.rd h.lt (Ring_len xs) (by unfold maxLen; omega) _ (Nat.le_refl _) (by unfold maxLen; omega)
end Go.Proofs.YtcjekailcljaaaaGreat
