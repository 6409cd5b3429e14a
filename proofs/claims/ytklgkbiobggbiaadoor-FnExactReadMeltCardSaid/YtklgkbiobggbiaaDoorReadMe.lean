/- ReadMelt: the reference. -/
import Derived.Test.YtklgkbiobggbiaaDoorRows
import Derived.Test.YtklgkbiobggbiaaDoorReadMeL
import Derived.Test.YtklgkbiobggbiaaDoorOwnK
import Derived.Test.YtklgkbiobggbiaaDoorNum
import Derived.Test.YtklgkbiobggbiaaDoorParts
import Derived.Test.YtklgkbiobggbiaaDoorVMelt
import Derived.Deep.RegionHeld3
namespace Go.Proofs.YtklgkbiobggbiaaDoor
open Go.ChangeShapes Go.WideShapes Go.ChangeAt Go.RowKit Go.Deep Go.Joins
set_option linter.unusedVariables false
set_option maxRecDepth 100000
set_option linter.unusedSimpArgs false
theorem three_ownM {w : World} {base : Nat} {r : Value} {a b c : ByteArray} (h : w.ownsRow base 9 1 r 3 ([a, b, c].flatMap putStr)) : ∃ g cap U, r = .slice (some ⟨g, 0, none⟩) 3 cap ∧ base ≤ g ∧ Own w g 9 ([a, b, c].flatMap putStr ++ U) := by
  rcases own_form h with ⟨_, q⟩ | ⟨g, cap, rfl⟩
  · omega
  obtain ⟨U, ou⟩ := own_block h
  exact ⟨g, cap, U, rfl, (h.lt g rfl).1, ou⟩
theorem spec_l14One_is2 {b : Bool} (x : Melt) (a o : Nat) (w : World) (hx : x.ok w) (hn : x.ingots.length ≤ 1048576) (h0 : w.cell? ⟨a, o, none⟩ = some (.string x.id)) (h1 : w.cell? ⟨a, o + 1, none⟩ = some x.list) (h2 : w.cell? ⟨a, o + 2, none⟩ = some (.int .i64 x.mass)) (ha : a < w.heap.size) (hb : meltB x = b) :
    Calls Tryd.prog 78 #[.pointer (some ⟨a, o, none⟩)] w fun e w' => e = .returned (.bool b) ∧ Below w.heap.size w w' := by
  subst hb; exact spec_l14One x a o w hx hn h0 h1 h2 ha
theorem own_baseM {w : World} {base base' n s : Nat} {E : TypeId} {v : Value} {L : List Value} (h : w.ownsRow base E s v n L) (hb : base' ≤ base) : w.ownsRow base' E s v n L := by
  obtain ⟨h1, h2⟩ := h
  refine ⟨h1, ?_⟩
  rcases h2 with h2 | ⟨g, cap, cur, rfl, hg0, rest⟩
  · exact .inl h2
  · exact .inr ⟨g, cap, cur, rfl, Nat.le_trans hb hg0, rest⟩
theorem own_setM {w : World} {base g : Nat} {E E' : TypeId} {s n : Nat} {v : Value} {L L' : List Value} (h : w.ownsRow base E s v n L) (hg : Own w g E' L') (hne : E ≠ E') (i : Nat) (u : Value) : (w.setCell ⟨g, i, none⟩ u).ownsRow base E s v n L := by
  have ha := own_apart_type h hg hne
  obtain ⟨h1, h2⟩ := h
  refine ⟨h1, ?_⟩
  rcases h2 with h2 | ⟨g1, cap, cur, rfl, hg0, hg1, rest⟩
  · exact .inl h2
  · refine .inr ⟨g1, cap, cur, rfl, hg0, ?_, rest⟩
    rw [Below.heap_setCell _ _ _ _ (fun e => ha g1 rfl e)]
    exact hg1
theorem own_set3 {w : World} {base g : Nat} {E E' : TypeId} {s n : Nat} {v : Value} {L L' : List Value} {u0 u1 u2 : Value} (h : w.ownsRow base E s v n L) (hg : Own w g E' L') (hne : E ≠ E') :
    (((w.setCell ⟨g, 0, none⟩ u0).setCell ⟨g, 1, none⟩ u1).setCell ⟨g, 2, none⟩ u2).ownsRow base E s v n L :=
  own_setM (own_setM (own_setM h hg hne 0 u0) (hg.set 0 u0) hne 1 u1) ((hg.set 0 u0).set 1 u1) hne 2 u2
/-- what a read melt is, its list lying in memory of one's own -/
def MeltIs (w' : World) (base : Nat) (s : ByteArray) (e : Ending) : Prop := ∃ r : Value, e = .returned (.tuple #[.agg #[.string (meltV s).id, r, .int .i64 (meltV s).mass], .bool (meltR s).isSome]) ∧ w'.ownsRow base 9 1 r (meltV s).ingots.length ((meltV s).ingots.flatMap putStr)
set_option maxHeartbeats 4000000 in
theorem spec_l14Read (s : ByteArray) (w : World) (hs : s.size ≤ 1048576) :
    Calls Tryd.prog 41 #[.string s] w fun e w' => MeltIs w' w.heap.size s e ∧ Below w.heap.size w w' := by
  have HR0 : Hid (Own (w.alloc (.cells #[.string ⟨#[]⟩, .slice none 0 0, .int .i64 0] 37)) w.heap.size 37 [.string ⟨#[]⟩, .slice none 0 0, .int .i64 0]) := Lib.hid (Own.new w _ _)
  have HB0 : Hid (Below w.heap.size w (w.alloc (.cells #[.string ⟨#[]⟩, .slice none 0 0, .int .i64 0] 37))) := Lib.hid ((Below.refl _ _).alloc (Nat.le_refl _) _)
  have H32 := Lib.hid (fun w' => spec_l01Split 32 s w' hs)
  have hwz := Lib.hid (fun x (hx : x ∈ partsS 32 s) => partsS_size x hx)
  by_cases h3 : (partsS 32 s).length = 3
  case neg =>
    have e := Lib.hid (meltV_none (meltR_not3 h3))
    have t2 : (((partsS 32 s).length : Int) != 3) = true := bne_iff_ne.2 (by omega)
    clear h3
    generalize partsS 32 s = ws at *
    go_enter Tryd.func41, Tryd.ntmps41
    go_wp2_with fail
    refine (H32.out _).mono ?_; rintro e w1 ⟨rv, rfl, o1, b1⟩
    obtain ⟨ro, rx, rfl⟩ := (own_rd o1).form
    have HR1 := Lib.hid (HR0.out.below b1 HR0.out.lt)
    have HB1 := Lib.hid (bnext HB0.out b1)
    clear o1 b1 HR0 HB0
    have q0 : w1.cell? ⟨w.heap.size, 0, none⟩ = some (.string ⟨#[]⟩) := HR1.out.cell 0
    have q1 : w1.cell? ⟨w.heap.size, 1, none⟩ = some (.slice none 0 0) := HR1.out.cell 1
    have q2 : w1.cell? ⟨w.heap.size, 2, none⟩ = some (.int .i64 0) := HR1.out.cell 2
    have fq0 := HR1.out.free 0
    have fq1 := HR1.out.free 1
    have fq2 := HR1.out.free 2
    have hltq : w.heap.size < w1.heap.size := HR1.out.lt
    have hneq : ¬ w.heap.size = w1.heap.size := Nat.ne_of_lt HR1.out.lt
    go_wp2_with fail
    have hb := HB1.out
    exact bodyPost_ret (v := .tuple #[.agg #[.string ⟨#[]⟩, .slice none 0 0, .int .i64 0], .bool false]) (by simp [results, Tryd.results41, go_sem, q0, q1, q2, hltq, hneq]) rfl ⟨⟨.slice none 0 0, by rw [e.out.1, e.out.2]; try rfl, by rw [e.out.1]; exact own_nil _ _ _ _⟩, by (repeat' (first | (with_reducible exact Below.refl _ _) | (with_reducible assumption) | (with_reducible refine below_dn ?_ _) | (with_reducible refine Below.drew ?_) | (with_reducible refine Below.alloc ?_ ?_ _) | (with_reducible refine Below.setCell ?_ ?_ _) | go_size))⟩
  obtain ⟨a, b, c, hab⟩ := three_of h3
  have hsb : b.size ≤ 1048576 := Nat.le_trans (hwz.out b (by rw [hab]; simp)) hs
  have hsc : c.size ≤ 2147483647 := Nat.le_trans (hwz.out c (by rw [hab]; simp)) (by omega)
  have HN := Lib.hid (fun w' => spec_l01Number c w' hsc)
  have H44 := Lib.hid (fun w' => spec_l01Split 44 b w' hsb)
  rw [hab] at H32
  have H32' : Hid (∀ w' : World, Calls Tryd.prog 48 #[.string s, .int .u8 (32 : UInt8).toNat] w' fun e w'' => ∃ r, e = .returned r ∧ w''.ownsRow w'.heap.size 9 1 r 3 ([a, b, c].flatMap putStr) ∧ Below w'.heap.size w' w'') := H32
  have es := parts_three hab
  have hsz : s.size = a.size + 1 + b.size + 1 + c.size := by rw [es]; simp only [ByteArray.size_append]; rfl
  have hpl := partsS_len 44 b
  have hids1 : (partsS 44 b).length ≤ 1048576 := by omega
  have hids2 := Lib.hid (fun x (hx : x ∈ partsS 44 b) => (show x.size ≤ maxLen by have := partsS_size x hx; unfold maxLen; omega))
  have hsa : Hid (a.size ≤ maxLen) := Lib.hid (by unfold maxLen; omega)
  have hnone : Hid ((numS c).isSome = false → meltV s = mkMelt ⟨#[]⟩ [] 0 ∧ (meltR s).isSome = false) := Lib.hid (fun q => meltV_none (meltR_no hab (by cases h : numS c with | none => rfl | some v => rw [h] at q; cases q)))
  have hsome : Hid ((numS c).isSome = true → meltR s = if meltB (mkMelt a (partsS 44 b) (numV c)) = true then some (mkMelt a (partsS 44 b) (numV c)) else none) := Lib.hid (fun q => by
    cases h : numS c with
    | none => rw [h] at q; cases q
    | some v => rw [(num_some h).1]; exact meltR_yes hab h)
  have hm : Hid (I64 (numV c)) := Lib.hid (by have := numV_bd c; exact ⟨by omega, by omega⟩)
  clear hpl es hsz
  generalize numV c = m at *
  generalize (numS c).isSome = ok at *
  generalize hids : partsS 44 b = ids at *
  clear h3 hwz H32
  go_enter Tryd.func41, Tryd.ntmps41
  go_wp2_with fail
  refine (H32'.out _).mono ?_; rintro e w1 ⟨rv, rfl, o1, b1⟩
  obtain ⟨gx, cx, U, rfl, hgx0, ow⟩ := three_ownM o1
  have HW1 := Lib.hid ow
  have d2 : w1.cell? ⟨gx, 2, none⟩ = some (.string c) := ow.cell 2
  have d0 : w1.cell? ⟨gx, 0, none⟩ = some (.string a) := ow.cell 0
  have d1 : w1.cell? ⟨gx, 1, none⟩ = some (.string b) := ow.cell 1
  have hgx : gx < w1.heap.size := ow.lt
  have hgw : w.heap.size < gx := by have q := hgx0; simp at q; omega
  have HR1 := Lib.hid (HR0.out.below b1 HR0.out.lt)
  have HB1 := Lib.hid (bnext HB0.out b1)
  clear o1 b1 HR0 HB0 ow hgx0
  go_wp2_with fail
  refine (HN.out _).mono ?_; rintro e w2 ⟨rfl, rfl⟩
  go_wp2_with fail
  have hne1 : ¬ gx = w1.heap.size := by omega
  have hne2 : ¬ w1.heap.size = gx := by omega
  go_region_held3 (fun w' => w'.cell? ⟨gx, 0, none⟩ = some (.string a) ∧ w'.cell? ⟨gx, 1, none⟩ = some (.string b)) (first | assumption | go_keep | (simp [go_sem, hne1, hne2]; first | exact HS3.1 | exact HS3.2) | (simp [go_sem, hne1, hne2, HS3.1, HS3.2]; done)) (first
      | (go_at_call 48
         refine (H44.out _).mono ?_; rintro e w3 ⟨rl, rfl, o3, b3⟩
         obtain ⟨lo, lc, rfl⟩ := (own_rd o3).form
         have B3 : Below w1.heap.size w1 w3 := Below.trans (by (repeat' (first | (with_reducible exact Below.refl _ _) | (with_reducible assumption) | (with_reducible refine below_dn ?_ _) | (with_reducible refine Below.drew ?_) | (with_reducible refine Below.alloc ?_ ?_ _) | (with_reducible refine Below.setCell ?_ ?_ _) | go_size))) (b3.mono (by simp <;> omega))
         have HS3 : w3.cell? ⟨gx, 0, none⟩ = some (.string a) ∧ w3.cell? ⟨gx, 1, none⟩ = some (.string b) := ⟨(B3.cell (p := ⟨gx, 0, none⟩) hgx).trans d0, (B3.cell (p := ⟨gx, 1, none⟩) hgx).trans d1⟩
         have hg3 : gx < w3.heap.size := Nat.lt_of_lt_of_le hgx B3.size
         have O3 := Lib.hid o3
         have HB3 := Lib.hid B3
         first
           | (have b3' : Below (w1.alloc (.cells #[.string ⟨#[]⟩, .slice none 0 0, .int .i64 0] 37)).drew.heap.size (w1.alloc (.cells #[.string ⟨#[]⟩, .slice none 0 0, .int .i64 0] 37)).drew w3 := b3
              have ON : Own (w1.alloc (.cells #[.string ⟨#[]⟩, .slice none 0 0, .int .i64 0] 37)).drew w1.heap.size 37 [.string ⟨#[]⟩, .slice none 0 0, .int .i64 0] := Own.new w1 _ _
              have OX : Hid (Own w3 w1.heap.size 37 [.string ⟨#[]⟩, .slice none 0 0, .int .i64 0]) := Lib.hid (ON.below b3' ON.lt)
              have x0 : w3.cell? ⟨w1.heap.size, 0, none⟩ = some (.string ⟨#[]⟩) := OX.out.cell 0
              have x1 : w3.cell? ⟨w1.heap.size, 1, none⟩ = some (.slice none 0 0) := OX.out.cell 1
              have x2 : w3.cell? ⟨w1.heap.size, 2, none⟩ = some (.int .i64 0) := OX.out.cell 2
              have fx0 := OX.out.free 0
              have fx1 := OX.out.free 1
              have fx2 := OX.out.free 2
              have hltx := OX.out.lt
              have hnex : ¬ w1.heap.size = w3.heap.size := Nat.ne_of_lt OX.out.lt
              clear b3 o3 B3 b3' ON)
           | clear b3 o3 B3))
  · have HO3 : Hid (w3.ownsRow w.heap.size 9 1 (.slice lo ids.length lc) ids.length (ids.flatMap putStr)) := Lib.hid (own_baseM O3.out (by show w.heap.size ≤ w1.heap.size; exact HB1.out.size))
    have F1 : Hid (Own (w3.alloc (.cells #[.string a, .slice lo ids.length lc, .int .i64 m] 37)) w3.heap.size 37 [.string a, .slice lo ids.length lc, .int .i64 m]) := Lib.hid (Own.new w3 _ _)
    have F2 : Hid ((w3.alloc (.cells #[.string a, .slice lo ids.length lc, .int .i64 m] 37)).ownsRow w.heap.size 9 1 (.slice lo ids.length lc) ids.length (ids.flatMap putStr)) := Lib.hid (HO3.out.alloc _)
    have F3 : Hid (Own (w3.alloc (.cells #[.string a, .slice lo ids.length lc, .int .i64 m] 37)) w.heap.size 37 [.string ⟨#[]⟩, .slice none 0 0, .int .i64 0]) := Lib.hid ((HR1.out.below HB3.out HR1.out.lt).alloc _)
    have F4' := bnext HB1.out HB3.out
    have F4 : Hid (Below w.heap.size w (w3.alloc (.cells #[.string a, .slice lo ids.length lc, .int .i64 m] 37))) := Lib.hid (F4'.alloc F4'.size _)
    have hgl : w.heap.size < w3.heap.size := Nat.lt_of_lt_of_le HR1.out.lt HB3.out.size
    clear HS3 O3 HO3 HB3 HW1 HR1 HB1 d0 d1 d2 hne1 hne2 hg3 F4'
    generalize (w3.alloc (.cells #[.string a, .slice lo ids.length lc, .int .i64 m] 37)) = w4 at *
    generalize w3.heap.size = gX at *
    have hx : Hid ((⟨a, .slice lo ids.length lc, ids, m⟩ : Melt).ok w4) := Lib.hid ⟨hsa.out, ⟨own_rd F2.out, by unfold maxLen; show ids.length ≤ _; omega, hids2.out⟩, hm.out⟩
    cases ok with
    | false =>
      have e := Lib.hid (hnone.out rfl)
      clear hnone hsome hx F1
      have q0 : w4.cell? ⟨w.heap.size, 0, none⟩ = some (.string ⟨#[]⟩) := F3.out.cell 0
      have q1 : w4.cell? ⟨w.heap.size, 1, none⟩ = some (.slice none 0 0) := F3.out.cell 1
      have q2 : w4.cell? ⟨w.heap.size, 2, none⟩ = some (.int .i64 0) := F3.out.cell 2
      have fq0 := F3.out.free 0
      have fq1 := F3.out.free 1
      have fq2 := F3.out.free 2
      have hltq : w.heap.size < w4.heap.size := F3.out.lt
      have hneq : ¬ w.heap.size = w4.heap.size := Nat.ne_of_lt F3.out.lt
      go_wp2_with fail
      have hb := F4.out
      exact bodyPost_ret (v := .tuple #[.agg #[.string ⟨#[]⟩, .slice none 0 0, .int .i64 0], .bool false]) (by simp [results, Tryd.results41, go_sem, q0, q1, q2, hltq, hneq]) rfl ⟨⟨.slice none 0 0, by rw [e.out.1, e.out.2]; try rfl, by rw [e.out.1]; exact own_nil _ _ _ _⟩, by (repeat' (first | (with_reducible exact Below.refl _ _) | (with_reducible assumption) | (with_reducible refine below_dn ?_ _) | (with_reducible refine Below.drew ?_) | (with_reducible refine Below.alloc ?_ ?_ _) | (with_reducible refine Below.setCell ?_ ?_ _) | go_size))⟩
    | true =>
      have hy := hsome.out rfl
      cases hbm : meltB (mkMelt a ids m)
      · rw [hbm] at hy
        have e := Lib.hid (meltV_none (s := s) hy)
        have HV := Lib.hid (spec_l14One_is2 ⟨a, .slice lo ids.length lc, ids, m⟩ gX 0 w4 hx.out hids1 (F1.out.cell 0) (F1.out.cell 1) (F1.out.cell 2) F1.out.lt hbm)
        clear hnone hsome hy hbm hx
        go_wp2_with fail
        refine HV.out.mono ?_; rintro e w5 ⟨rfl, b5⟩
        have HR5 := Lib.hid (F3.out.below b5 F3.out.lt)
        have HB5 := Lib.hid (bnext F4.out b5)
        clear b5 F1 F2 F3 F4
        have q0 : w5.cell? ⟨w.heap.size, 0, none⟩ = some (.string ⟨#[]⟩) := HR5.out.cell 0
        have q1 : w5.cell? ⟨w.heap.size, 1, none⟩ = some (.slice none 0 0) := HR5.out.cell 1
        have q2 : w5.cell? ⟨w.heap.size, 2, none⟩ = some (.int .i64 0) := HR5.out.cell 2
        have fq0 := HR5.out.free 0
        have fq1 := HR5.out.free 1
        have fq2 := HR5.out.free 2
        have hltq : w.heap.size < w5.heap.size := HR5.out.lt
        have hneq : ¬ w.heap.size = w5.heap.size := Nat.ne_of_lt HR5.out.lt
        go_wp2_with fail
        have hb := HB5.out
        exact bodyPost_ret (v := .tuple #[.agg #[.string ⟨#[]⟩, .slice none 0 0, .int .i64 0], .bool false]) (by simp [results, Tryd.results41, go_sem, q0, q1, q2, hltq, hneq]) rfl ⟨⟨.slice none 0 0, by rw [e.out.1, e.out.2]; try rfl, by rw [e.out.1]; exact own_nil _ _ _ _⟩, by (repeat' (first | (with_reducible exact Below.refl _ _) | (with_reducible assumption) | (with_reducible refine below_dn ?_ _) | (with_reducible refine Below.drew ?_) | (with_reducible refine Below.alloc ?_ ?_ _) | (with_reducible refine Below.setCell ?_ ?_ _) | go_size))⟩
      · rw [hbm] at hy
        have e := Lib.hid (meltV_some (s := s) hy)
        have HV := Lib.hid (spec_l14One_is2 ⟨a, .slice lo ids.length lc, ids, m⟩ gX 0 w4 hx.out hids1 (F1.out.cell 0) (F1.out.cell 1) (F1.out.cell 2) F1.out.lt hbm)
        clear hnone hsome hy hbm hx
        go_wp2_with fail
        refine HV.out.mono ?_; rintro e w5 ⟨rfl, b5⟩
        have HR5 := Lib.hid (F3.out.below b5 F3.out.lt)
        have HX5 := Lib.hid (F1.out.below b5 F1.out.lt)
        have HO5 := Lib.hid (own_below F2.out b5 (Nat.le_refl _))
        have HB5 := Lib.hid (bnext F4.out b5)
        clear b5 F1 F2 F3 F4
        have q0 : w5.cell? ⟨w.heap.size, 0, none⟩ = some (.string ⟨#[]⟩) := HR5.out.cell 0
        have q1 : w5.cell? ⟨w.heap.size, 1, none⟩ = some (.slice none 0 0) := HR5.out.cell 1
        have q2 : w5.cell? ⟨w.heap.size, 2, none⟩ = some (.int .i64 0) := HR5.out.cell 2
        have fq0 := HR5.out.free 0
        have fq1 := HR5.out.free 1
        have fq2 := HR5.out.free 2
        have hltq : w.heap.size < w5.heap.size := HR5.out.lt
        have hneq : ¬ w.heap.size = w5.heap.size := Nat.ne_of_lt HR5.out.lt
        have x0 : w5.cell? ⟨gX, 0, none⟩ = some (.string a) := HX5.out.cell 0
        have x1 : w5.cell? ⟨gX, 1, none⟩ = some (.slice lo ids.length lc) := HX5.out.cell 1
        have x2 : w5.cell? ⟨gX, 2, none⟩ = some (.int .i64 m) := HX5.out.cell 2
        have fx0 := HX5.out.free 0
        have fx1 := HX5.out.free 1
        have fx2 := HX5.out.free 2
        have hltx : gX < w5.heap.size := HX5.out.lt
        have hnex : ¬ gX = w5.heap.size := Nat.ne_of_lt HX5.out.lt
        go_wp2_with fail
        have hb := HB5.out
        exact bodyPost_ret (v := .tuple #[.agg #[.string a, .slice lo ids.length lc, .int .i64 m], .bool true]) (by simp [results, Tryd.results41, go_sem, q0, q1, q2, hltq, hneq, x0, x1, x2, hltx, hnex]) rfl ⟨⟨.slice lo ids.length lc, by rw [e.out.1, e.out.2]; try rfl, by rw [e.out.1]; exact own_set3 HO5.out HR5.out (by decide)⟩, by (repeat' (first | (with_reducible exact Below.refl _ _) | (with_reducible assumption) | (with_reducible refine below_dn ?_ _) | (with_reducible refine Below.drew ?_) | (with_reducible refine Below.alloc ?_ ?_ _) | (with_reducible refine Below.setCell ?_ ?_ _) | go_size))⟩
  · have HO3 : Hid (w3.ownsRow w.heap.size 9 1 (.slice lo ids.length lc) ids.length (ids.flatMap putStr)) := Lib.hid (own_baseM O3.out (by have := HB1.out.size; simp; omega))
    have F1 : Hid (Own (((w3.setCell ⟨w1.heap.size, 0, none⟩ (.string a)).setCell ⟨w1.heap.size, 1, none⟩ (.slice lo ids.length lc)).setCell ⟨w1.heap.size, 2, none⟩ (.int .i64 m)) w1.heap.size 37 [.string a, .slice lo ids.length lc, .int .i64 m]) := Lib.hid (((OX.out.set 0 (.string a)).set 1 (.slice lo ids.length lc)).set 2 (.int .i64 m))
    have F2 : Hid ((((w3.setCell ⟨w1.heap.size, 0, none⟩ (.string a)).setCell ⟨w1.heap.size, 1, none⟩ (.slice lo ids.length lc)).setCell ⟨w1.heap.size, 2, none⟩ (.int .i64 m)).ownsRow w.heap.size 9 1 (.slice lo ids.length lc) ids.length (ids.flatMap putStr)) := Lib.hid (own_set3 HO3.out OX.out (by decide))
    have F3 : Hid (Own (((w3.setCell ⟨w1.heap.size, 0, none⟩ (.string a)).setCell ⟨w1.heap.size, 1, none⟩ (.slice lo ids.length lc)).setCell ⟨w1.heap.size, 2, none⟩ (.int .i64 m)) w.heap.size 37 [.string ⟨#[]⟩, .slice none 0 0, .int .i64 0]) := Lib.hid ((((HR1.out.below HB3.out HR1.out.lt).other (a := ⟨w1.heap.size, 0, none⟩) (by have := HR1.out.lt; show w1.heap.size ≠ w.heap.size; omega) _).other (a := ⟨w1.heap.size, 1, none⟩) (by have := HR1.out.lt; show w1.heap.size ≠ w.heap.size; omega) _).other (a := ⟨w1.heap.size, 2, none⟩) (by have := HR1.out.lt; show w1.heap.size ≠ w.heap.size; omega) _)
    have F4' := bnext HB1.out HB3.out
    have F4 : Hid (Below w.heap.size w (((w3.setCell ⟨w1.heap.size, 0, none⟩ (.string a)).setCell ⟨w1.heap.size, 1, none⟩ (.slice lo ids.length lc)).setCell ⟨w1.heap.size, 2, none⟩ (.int .i64 m))) := Lib.hid (Below.setCell (Below.setCell (Below.setCell F4' (by show w.heap.size ≤ w1.heap.size; exact HB1.out.size) _) (by show w.heap.size ≤ w1.heap.size; exact HB1.out.size) _) (by show w.heap.size ≤ w1.heap.size; exact HB1.out.size) _)
    have hgl : w.heap.size < w1.heap.size := HR1.out.lt
    clear HS3 O3 HO3 HB3 HW1 HR1 HB1 d0 d1 d2 hne1 hne2 hg3 F4' OX x0 x1 x2 fx0 fx1 fx2 hltx hnex
    generalize (((w3.setCell ⟨w1.heap.size, 0, none⟩ (.string a)).setCell ⟨w1.heap.size, 1, none⟩ (.slice lo ids.length lc)).setCell ⟨w1.heap.size, 2, none⟩ (.int .i64 m)) = w4 at *
    generalize w1.heap.size = gX at *
    have hx : Hid ((⟨a, .slice lo ids.length lc, ids, m⟩ : Melt).ok w4) := Lib.hid ⟨hsa.out, ⟨own_rd F2.out, by unfold maxLen; show ids.length ≤ _; omega, hids2.out⟩, hm.out⟩
    cases ok with
    | false =>
      have e := Lib.hid (hnone.out rfl)
      clear hnone hsome hx F1
      have q0 : w4.cell? ⟨w.heap.size, 0, none⟩ = some (.string ⟨#[]⟩) := F3.out.cell 0
      have q1 : w4.cell? ⟨w.heap.size, 1, none⟩ = some (.slice none 0 0) := F3.out.cell 1
      have q2 : w4.cell? ⟨w.heap.size, 2, none⟩ = some (.int .i64 0) := F3.out.cell 2
      have fq0 := F3.out.free 0
      have fq1 := F3.out.free 1
      have fq2 := F3.out.free 2
      have hltq : w.heap.size < w4.heap.size := F3.out.lt
      have hneq : ¬ w.heap.size = w4.heap.size := Nat.ne_of_lt F3.out.lt
      go_wp2_with fail
      have hb := F4.out
      exact bodyPost_ret (v := .tuple #[.agg #[.string ⟨#[]⟩, .slice none 0 0, .int .i64 0], .bool false]) (by simp [results, Tryd.results41, go_sem, q0, q1, q2, hltq, hneq]) rfl ⟨⟨.slice none 0 0, by rw [e.out.1, e.out.2]; try rfl, by rw [e.out.1]; exact own_nil _ _ _ _⟩, by (repeat' (first | (with_reducible exact Below.refl _ _) | (with_reducible assumption) | (with_reducible refine below_dn ?_ _) | (with_reducible refine Below.drew ?_) | (with_reducible refine Below.alloc ?_ ?_ _) | (with_reducible refine Below.setCell ?_ ?_ _) | go_size))⟩
    | true =>
      have hy := hsome.out rfl
      cases hbm : meltB (mkMelt a ids m)
      · rw [hbm] at hy
        have e := Lib.hid (meltV_none (s := s) hy)
        have HV := Lib.hid (spec_l14One_is2 ⟨a, .slice lo ids.length lc, ids, m⟩ gX 0 w4 hx.out hids1 (F1.out.cell 0) (F1.out.cell 1) (F1.out.cell 2) F1.out.lt hbm)
        clear hnone hsome hy hbm hx
        go_wp2_with fail
        refine HV.out.mono ?_; rintro e w5 ⟨rfl, b5⟩
        have HR5 := Lib.hid (F3.out.below b5 F3.out.lt)
        have HB5 := Lib.hid (bnext F4.out b5)
        clear b5 F1 F2 F3 F4
        have q0 : w5.cell? ⟨w.heap.size, 0, none⟩ = some (.string ⟨#[]⟩) := HR5.out.cell 0
        have q1 : w5.cell? ⟨w.heap.size, 1, none⟩ = some (.slice none 0 0) := HR5.out.cell 1
        have q2 : w5.cell? ⟨w.heap.size, 2, none⟩ = some (.int .i64 0) := HR5.out.cell 2
        have fq0 := HR5.out.free 0
        have fq1 := HR5.out.free 1
        have fq2 := HR5.out.free 2
        have hltq : w.heap.size < w5.heap.size := HR5.out.lt
        have hneq : ¬ w.heap.size = w5.heap.size := Nat.ne_of_lt HR5.out.lt
        go_wp2_with fail
        have hb := HB5.out
        exact bodyPost_ret (v := .tuple #[.agg #[.string ⟨#[]⟩, .slice none 0 0, .int .i64 0], .bool false]) (by simp [results, Tryd.results41, go_sem, q0, q1, q2, hltq, hneq]) rfl ⟨⟨.slice none 0 0, by rw [e.out.1, e.out.2]; try rfl, by rw [e.out.1]; exact own_nil _ _ _ _⟩, by (repeat' (first | (with_reducible exact Below.refl _ _) | (with_reducible assumption) | (with_reducible refine below_dn ?_ _) | (with_reducible refine Below.drew ?_) | (with_reducible refine Below.alloc ?_ ?_ _) | (with_reducible refine Below.setCell ?_ ?_ _) | go_size))⟩
      · rw [hbm] at hy
        have e := Lib.hid (meltV_some (s := s) hy)
        have HV := Lib.hid (spec_l14One_is2 ⟨a, .slice lo ids.length lc, ids, m⟩ gX 0 w4 hx.out hids1 (F1.out.cell 0) (F1.out.cell 1) (F1.out.cell 2) F1.out.lt hbm)
        clear hnone hsome hy hbm hx
        go_wp2_with fail
        refine HV.out.mono ?_; rintro e w5 ⟨rfl, b5⟩
        have HR5 := Lib.hid (F3.out.below b5 F3.out.lt)
        have HX5 := Lib.hid (F1.out.below b5 F1.out.lt)
        have HO5 := Lib.hid (own_below F2.out b5 (Nat.le_refl _))
        have HB5 := Lib.hid (bnext F4.out b5)
        clear b5 F1 F2 F3 F4
        have q0 : w5.cell? ⟨w.heap.size, 0, none⟩ = some (.string ⟨#[]⟩) := HR5.out.cell 0
        have q1 : w5.cell? ⟨w.heap.size, 1, none⟩ = some (.slice none 0 0) := HR5.out.cell 1
        have q2 : w5.cell? ⟨w.heap.size, 2, none⟩ = some (.int .i64 0) := HR5.out.cell 2
        have fq0 := HR5.out.free 0
        have fq1 := HR5.out.free 1
        have fq2 := HR5.out.free 2
        have hltq : w.heap.size < w5.heap.size := HR5.out.lt
        have hneq : ¬ w.heap.size = w5.heap.size := Nat.ne_of_lt HR5.out.lt
        have x0 : w5.cell? ⟨gX, 0, none⟩ = some (.string a) := HX5.out.cell 0
        have x1 : w5.cell? ⟨gX, 1, none⟩ = some (.slice lo ids.length lc) := HX5.out.cell 1
        have x2 : w5.cell? ⟨gX, 2, none⟩ = some (.int .i64 m) := HX5.out.cell 2
        have fx0 := HX5.out.free 0
        have fx1 := HX5.out.free 1
        have fx2 := HX5.out.free 2
        have hltx : gX < w5.heap.size := HX5.out.lt
        have hnex : ¬ gX = w5.heap.size := Nat.ne_of_lt HX5.out.lt
        go_wp2_with fail
        have hb := HB5.out
        exact bodyPost_ret (v := .tuple #[.agg #[.string a, .slice lo ids.length lc, .int .i64 m], .bool true]) (by simp [results, Tryd.results41, go_sem, q0, q1, q2, hltq, hneq, x0, x1, x2, hltx, hnex]) rfl ⟨⟨.slice lo ids.length lc, by rw [e.out.1, e.out.2]; try rfl, by rw [e.out.1]; exact own_set3 HO5.out HR5.out (by decide)⟩, by (repeat' (first | (with_reducible exact Below.refl _ _) | (with_reducible assumption) | (with_reducible refine below_dn ?_ _) | (with_reducible refine Below.drew ?_) | (with_reducible refine Below.alloc ?_ ?_ _) | (with_reducible refine Below.setCell ?_ ?_ _) | go_size))⟩
end Go.Proofs.YtklgkbiobggbiaaDoor
