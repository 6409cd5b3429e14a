/- Contracts and plain facts, joined: DrawB, StepApp, MarkString. -/
import Derived.Test.YtnbodmbagendnaaGreatDoorRows
import Derived.Test.YtnbodmbagendnaaGreatDoorZFnMeltsB
import Derived.Test.YtnbodmbagendnaaGreatDoorZFnMeltsC
import Derived.Test.YtnbodmbagendnaaGreatDoorZFnMeltsJ
import Derived.Test.YtnbodmbagendnaaGreatDoorZFnMeltsS
import Derived.Test.YtnbodmbagendnaaGreatDoorZFnMeltsT
namespace Go.Proofs.YtnbodmbagendnaaGreatDoor
open Go.ChangeShapes Go.WideShapes Go.ChangeAt Go.RowKit Go.Deep Go.Joins
set_option linter.unusedVariables false
set_option maxRecDepth 100000
set_option linter.unusedSimpArgs false
theorem one5 (a : ByteArray) (b c d e : Int) : ∀ u ∈ [Value.string a, .int .i64 b, .int .i64 c, .int .i64 d, .int .i64 e], u.oneCell' = true := by
  intro u hu
  simp only [List.mem_cons, List.not_mem_nil, or_false] at hu
  rcases hu with rfl | rfl | rfl | rfl | rfl <;> rfl
theorem nameB_sizeD {s : ByteArray} (h : nameB s = true) : s.size ≤ 10 := by
  unfold nameB nameL at h
  simp only [Bool.and_eq_true, decide_eq_true_eq] at h
  have e : s.data.toList.length = s.size := rfl
  omega
theorem fineI_drawn {xs : List Ingot} (h : drawnI xs) : fineI xs := by
  refine ⟨Nat.le_trans h.1 (by decide), fun x hx => ?_⟩
  have hb := drawn_one h x hx
  have h1 := ingotB_nums hb
  have h2 := nameB_sizeD (show nameB x.id = true by have := hb; unfold ingotB at this; simp only [Bool.and_eq_true] at this; exact this.1)
  have h3 := alloyB_true (show alloyB x.alloy = true by have := hb; unfold ingotB at this; simp only [Bool.and_eq_true] at this; exact this.2.2)
  exact ⟨⟨by unfold maxLen; omega, ⟨by omega, by omega⟩, ⟨by omega, by omega⟩, ⟨by omega, by omega⟩, ⟨by omega, by omega⟩⟩, by omega, by omega⟩
theorem byte_strC (W : World) (c : Int) (x : Nat) (h : c = (x : Int)) (hx : x < 256) : (convert 22 9 (.slice (some ⟨W.heap.size, 0, none⟩) 1 1)).run Tryz.prog (W.alloc (.cells #[.int .u8 c] 5)) = .ok (.string ⟨#[UInt8.ofNat x]⟩) (W.alloc (.cells #[.int .u8 c] 5)) := by
  subst h; exact byte_str W x hx
theorem ok_of (a : ByteArray) (m c t o : Int) (ha : a.size ≤ 100) (hm : 0 ≤ m ∧ m ≤ 20000001) (hc : 0 ≤ c ∧ c ≤ 1000000) (ht : 0 ≤ t ∧ t ≤ 1000000) (ho : 0 ≤ o ∧ o ≤ 1000000) : (⟨a, m, ⟨c, t, o⟩⟩ : Ingot).ok :=
  ⟨by show a.size ≤ maxLen; unfold maxLen; omega, ⟨by show _ ≤ m; omega, by show m ≤ _; omega⟩, ⟨by show _ ≤ c; omega, by show c ≤ _; omega⟩, ⟨by show _ ≤ t; omega, by show t ≤ _; omega⟩, ⟨by show _ ≤ o; omega, by show o ≤ _; omega⟩⟩
set_option maxHeartbeats 4000000 in
theorem draw_bent (w : World) (g n : Nat) (h : Src w g n) (hn : n ≤ 50000) :
    Calls Tryz.prog 44 #[.pointer (some ⟨g, 0, none⟩)] w fun e w' => ∃ (r : Value) (xs : List Ingot), e = .returned r ∧ fineI xs ∧ w'.ownsRow w.heap.size 77 5 r xs.length (xs.flatMap Ingot.put) ∧ Src w' g (n + 200) ∧ Turn g (g + 1) w w' := by
  have hg := h.lt
  obtain ⟨i0, hi, hz0, hz1, hz2⟩ := info_parts Ingot_info
  have HD := Lib.hid (draw_ingots w g n h (by omega))
  clear h
  go_enter Tryz.func44, Tryz.ntmps44
  go_wp2_with fail
  refine HD.out.mono ?_; rintro e w1 ⟨r, xs, rfl, hd, ho, s1, t1⟩
  obtain ⟨ro, rc, er⟩ := (own_rd ho).form
  subst er
  have F1 := Lib.hid (fineI_drawn hd)
  have O1 := Lib.hid ho
  have T1 := Lib.hid t1
  have zz1 : w.heap.size ≤ w1.heap.size := t1.size
  have hx7 : xs.length ≤ 7 := hd.1
  have HP := Lib.hid (src_pick w1 g (n + 100) 20 s1 (by omega) (by omega))
  clear hd ho s1 t1 HD
  go_wp2_with fail
  refine HP.out.mono ?_; rintro e w2 ⟨p, rfl, p0, _, p1, s2, t2⟩
  have O2 := Lib.hid (own_turn O1.out t2 (by omega))
  have T2 := Lib.hid (T1.out.trans t2)
  have S2 := Lib.hid s2
  have zz2 : w1.heap.size ≤ w2.heap.size := t2.size
  clear s2 t2 O1 T1 HP p1
  by_cases h0 : p = 0
  · subst h0
    go_wp2_with (at_builtin; refine app_el rfl _ _ 24 77 i0 (.agg #[.string ByteArray.empty, .int .i64 0, .int .i64 0, .int .i64 0, .int .i64 0]) 5 48 Tryz.underlying24 hi hz0 hz1 hz2 (by rfl) (by decide) rfl w2 w.heap.size _ xs.length (xs.flatMap Ingot.put) (by rfl) O2.out [.string ⟨#[97]⟩, .int .i64 5, .int .i64 1000000, .int .i64 0, .int .i64 0] rfl (one5 _ _ _ _ _) (by first | rfl | (rw [World.size_alloc]; rfl)) (by omega) (by decide) (by omega) ?_; intro g8 gc8 w8 hown8 hB8 hz8; have HB8 := Lib.hid (hB8 _ (Below.refl _ _)); have HO8 := Lib.hid hown8; clear hown8 hB8)
    go_ret
    exact ⟨_, xs ++ [⟨⟨#[97]⟩, 5, ⟨1000000, 0, 0⟩⟩], rfl, fineI_snoc F1.out (by omega) (ok_of ⟨#[97]⟩ 5 1000000 0 0 (by decide) (by omega) (by omega) (by omega) (by omega)) (by decide) (by decide), by rw [ing_snoc, List.length_append]; exact HO8.out, (S2.out.belowB HB8.out (by omega)).mono (by omega), T2.out.thenB HB8.out (by omega)⟩
  have p0f : (p == 0) = false := beq_eq_false_iff_ne.2 h0
  by_cases h1 : p = 1
  · subst h1
    have L3 : Rd (w2.alloc (.cells #[.int .i64 0, .int .i64 1, .int .i64 20000000, .int .i64 20000001] 2)).heap.size (w2.alloc (.cells #[.int .i64 0, .int .i64 1, .int .i64 20000000, .int .i64 20000001] 2)) (.slice (some ⟨w2.heap.size, 0, none⟩) 4 4) 1 4 ([(0 : Int), 1, 20000000, 20000001].flatMap putI) := by
      have o := Own.new w2 2 [.int .i64 0, .int .i64 1, .int .i64 20000000, .int .i64 20000001]
      exact o.rd o.lt (n := 4) rfl (by unfold maxLen; omega) _ (Nat.le_refl _) (by unfold maxLen; omega)
    have S3 : Src (w2.alloc (.cells #[.int .i64 0, .int .i64 1, .int .i64 20000000, .int .i64 20000001] 2)) g (n + 102) := S2.out.below ((Below.refl _ _).alloc (Nat.le_refl _) _)
    have HX := Lib.hid (src_among _ g (n + 102) _ _ S3 (by omega) L3 (by decide) (by decide) (by rintro b off l c e; injection e with e _ _; injection e with e; injection e with e; omega))
    have O3 : Hid ((w2.alloc (.cells #[.int .i64 0, .int .i64 1, .int .i64 20000000, .int .i64 20000001] 2)).ownsRow w.heap.size 77 5 (.slice ro xs.length rc) xs.length (xs.flatMap Ingot.put)) := Lib.hid (O2.out.alloc _)
    have T3 : Hid (Turn g (g + 1) w (w2.alloc (.cells #[.int .i64 0, .int .i64 1, .int .i64 20000000, .int .i64 20000001] 2))) := Lib.hid (T2.out.allocR _)
    have zz3 : w2.heap.size ≤ (w2.alloc (.cells #[.int .i64 0, .int .i64 1, .int .i64 20000000, .int .i64 20000001] 2)).heap.size := by simp
    clear L3 S3 O2 T2 S2
    go_wp2_with fail
    refine HX.out.mono ?_; rintro e w4 ⟨m, rfl, hm, s4, t4⟩
    have O4 := Lib.hid (own_turn O3.out t4 (by omega))
    have T4 := Lib.hid (T3.out.trans t4)
    have S4 := Lib.hid s4
    have zz4 := t4.size
    have hmb : 0 ≤ m ∧ m ≤ 20000001 := by
      have h1 : m = 0 ∨ m = 1 ∨ m = 20000000 ∨ m = 20000001 := by simpa using hm
      omega
    clear hm s4 t4 O3 T3 HX
    go_wp2_with (at_builtin; refine app_el rfl _ _ 24 77 i0 (.agg #[.string ByteArray.empty, .int .i64 0, .int .i64 0, .int .i64 0, .int .i64 0]) 5 48 Tryz.underlying24 hi hz0 hz1 hz2 (by rfl) (by decide) rfl w4 w.heap.size _ xs.length (xs.flatMap Ingot.put) (by rfl) O4.out [.string ⟨#[122]⟩, .int .i64 m, .int .i64 1000000, .int .i64 0, .int .i64 0] rfl (one5 _ _ _ _ _) (by first | rfl | (rw [World.size_alloc]; rfl)) (by omega) (by decide) (by omega) ?_; intro g8 gc8 w8 hown8 hB8 hz8; have HB8 := Lib.hid (hB8 _ (Below.refl _ _)); have HO8 := Lib.hid hown8; clear hown8 hB8)
    go_ret
    exact ⟨_, xs ++ [⟨⟨#[122]⟩, m, ⟨1000000, 0, 0⟩⟩], rfl, fineI_snoc F1.out (by omega) (ok_of ⟨#[122]⟩ m 1000000 0 0 (by decide) hmb (by omega) (by omega) (by omega)) hmb.1 hmb.2, by rw [ing_snoc, List.length_append]; exact HO8.out, (S4.out.belowB HB8.out (by omega)).mono (by omega), T4.out.thenB HB8.out (by omega)⟩
  have p1f : (p == 1) = false := beq_eq_false_iff_ne.2 h1
  by_cases h2 : p = 2
  · subst h2
    have HP2 := Lib.hid (src_pick w2 g (n + 102) 3 S2.out (by omega) (by omega))
    clear O2
    go_wp2_with fail
    refine HP2.out.mono ?_; rintro e w3 ⟨y, rfl, y0, _, y1, s3, t3⟩
    have hy2 : y < 3 := y1 (by omega)
    have T3 : Hid (Turn g (g + 1) w (w3.alloc (.cells #[] 77))) := Lib.hid ((T2.out.trans t3).allocR _)
    have S3 : Hid (Src (w3.alloc (.cells #[] 77)) g (n + 104)) := Lib.hid (s3.below ((Below.refl _ _).alloc (Nat.le_refl _) _))
    have zz3 : w2.heap.size ≤ w3.heap.size := t3.size
    have O3 : Hid ((w3.alloc (.cells #[] 77)).ownsRow w.heap.size 77 5 (.slice (some ⟨w3.heap.size, 0, none⟩) 0 0) 0 []) := Lib.hid (own_empty w3 w.heap.size _ 5 (by omega))
    have zz4 : w.heap.size ≤ (w3.alloc (.cells #[] 77)).heap.size := by simp; omega
    clear s3 t3 y1 HP2 T2 S2 F1
    go_wp2_with fail
    go_loopw [3, 5] (fun r i wr => ∃ (k : Nat) (ys : List Ingot), (k : Int) ≤ 15 + y ∧ i = .int .i64 k ∧ ys.length = k ∧ fineI ys ∧ wr.ownsRow w.heap.size 77 5 r k (ys.flatMap Ingot.put) ∧ Src wr g (n + 104) ∧ Turn g (g + 1) w wr) (fun _ i _ => (15 + y - intOf i).toNat)
    case atStart => exact ⟨0, [], by omega, rfl, rfl, ⟨by simp, fun x hx => (by cases hx)⟩, O3.out, S3.out, T3.out⟩
    case round =>
      clear O3 S3 T3 zz4
      obtain ⟨k, ys, hk, rfl, hyk, hfy, hown, hsr, htr⟩ := hrel
      have HYK := Lib.hid hyk
      have FY := Lib.hid hfy
      have OR := Lib.hid hown
      have SR := Lib.hid hsr
      have TR := Lib.hid htr
      have hgr : g < wr.heap.size := hsr.lt
      have hwr : w.heap.size ≤ wr.heap.size := htr.size
      obtain ⟨qo, qc, eq0⟩ := (own_rd hown).form
      subst eq0
      clear hyk hfy hown hsr htr
      by_cases hlt : (k : Int) < 15 + y
      · have tl : decide ((k : Int) < 15 + y) = true := decide_eq_true hlt
        have hk17 : k ≤ 16 := by omega
        have kc := byte_strC wr (97 + (k : Int)) (97 + k) (by omega) (by omega)
        have O5 : Hid ((wr.alloc (.cells #[.int .u8 (97 + (k : Int))] 5)).ownsRow w.heap.size 77 5 (.slice qo k qc) k (ys.flatMap Ingot.put)) := Lib.hid (OR.out.alloc _)
        have S5 : Hid (Src (wr.alloc (.cells #[.int .u8 (97 + (k : Int))] 5)) g (n + 104)) := Lib.hid (SR.out.below ((Below.refl _ _).alloc (Nat.le_refl _) _))
        have T5 : Hid (Turn g (g + 1) w (wr.alloc (.cells #[.int .u8 (97 + (k : Int))] 5))) := Lib.hid (TR.out.allocR _)
        have z5 : wr.heap.size ≤ (wr.alloc (.cells #[.int .u8 (97 + (k : Int))] 5)).heap.size := by simp
        have hsz : (⟨#[105]⟩ ++ ⟨#[UInt8.ofNat (97 + k)]⟩ : ByteArray).size ≤ 100 := by rw [ByteArray.size_append]; show 1 + 1 ≤ 100; decide
        clear OR SR TR
        generalize UInt8.ofNat (97 + k) = bt at *
        go_wp2_with (at_builtin; go_loud (refine app_elK rfl _ _ 24 77 i0 (.agg #[.string ByteArray.empty, .int .i64 0, .int .i64 0, .int .i64 0, .int .i64 0]) 5 48 Tryz.underlying24 hi hz0 hz1 hz2 (by rfl) (by decide) rfl (wr.alloc (.cells #[.int .u8 (97 + (k : Int))] 5)) w.heap.size _ k (ys.flatMap Ingot.put) (by rfl) O5.out [.string (⟨#[105]⟩ ++ ⟨#[bt]⟩), .int .i64 1000, .int .i64 1000000, .int .i64 0, .int .i64 0] rfl (one5 _ _ _ _ _) (by first | rfl | (rw [World.size_alloc]; rfl)) (by omega) (by decide) (by omega) (by rfl) ?_; intro g8 gc8 w8 hown8 hB8 hK8 hz8; have HB8 := Lib.hid (hB8 _ (Below.refl _ _)); have HO8 := Lib.hid hown8; clear hown8 hB8 hK8))
        go_roundw
        case rel => exact ⟨k + 1, ys ++ [⟨⟨#[105]⟩ ++ ⟨#[bt]⟩, 1000, ⟨1000000, 0, 0⟩⟩], by push_cast; omega, by go_num, by rw [List.length_append, HYK.out]; rfl, fineI_snoc FY.out (by rw [HYK.out]; omega) (ok_of (⟨#[105]⟩ ++ ⟨#[bt]⟩) 1000 1000000 0 0 hsz (by omega) (by omega) (by omega) (by omega)) (by show (0 : Int) ≤ 1000; decide) (by show (1000 : Int) ≤ 20000001; decide), by rw [ing_snoc]; exact HO8.out, S5.out.belowB HB8.out (by omega), T5.out.thenB HB8.out (by omega)⟩
        case measure => simp [intOf]; omega
      · have tl : decide ((k : Int) < 15 + y) = false := decide_eq_false hlt
        go_wp2_with fail
        go_ret
        first
          | exact ⟨_, ys, rfl, FY.out, by rw [HYK.out]; exact OR.out, SR.out.mono (by omega), TR.out⟩
          | exact ⟨_, rfl, ys, FY.out, by rw [HYK.out]; exact OR.out, SR.out.mono (by omega), TR.out⟩
  have p2f : (p == 2) = false := beq_eq_false_iff_ne.2 h2
  go_wp2_with fail
  go_ret
  exact ⟨_, xs, rfl, F1.out, O2.out, S2.out.mono (by omega), T2.out⟩
end Go.Proofs.YtnbodmbagendnaaGreatDoor
namespace Go.Proofs.YtnbodmbagendnaaGreatDoor
open Go.ChangeShapes Go.WideShapes Go.ChangeAt Go.RowKit Go.Deep Go.Joins
set_option linter.unusedVariables false
set_option maxRecDepth 100000
set_option linter.unusedSimpArgs false
theorem stp_el {P : Program} {o : Oper} {a : Act} {K : Act → World → Prop} {Q : Exit → Act → World → Prop} {w1 : World} (s x : Operand) (T E : TypeId) (i : TypeInfo) (z : Value) (sz bytes : Nat)
    (hT : P.underlying T = some (.slice E)) (hi : P.info? E = some i) (hz : i.zero = some z) (h1 : i.size = sz) (h2 : i.bytes = bytes) (hzs : z.cells.size = sz) (hsz : 0 < sz)
    (ho : o.op = .call { callee := .builtin .append, args := #[s, x], argTypes := #[T, T] }) (w0 : World) (base : Nat) (v : Value) (n : Nat) (L : List Value) (hs : a.eval s = v) (hown : w0.ownsRow base E sz v n L)
    (cs : List Value) (hcs : cs.length = sz) (hone : ∀ u ∈ cs, u.oneCell' = true) (hx : a.eval x = .slice (some ⟨w0.heap.size, 0, none⟩) 1 1) (hn : n + 1 ≤ 2097152) (hby : bytes ≤ 64) (hbase : base ≤ w0.heap.size) (hw : w1 = w0.alloc (.cells cs.toArray E))
    (h : ∀ g cap w', w'.ownsRow base E sz (.slice (some ⟨g, 0, none⟩) (n + 1) cap) (n + 1) (L ++ cs) → (∀ W, Below base W w0 → Below base W w') → (∀ b E' L', Own w0 b E' L' → (∀ g', v.ownBlock = some g' → g' ≠ b) → Own w' b E' L') → K (a.put o.dst (.slice (some ⟨g, 0, none⟩) (n + 1) cap)) w') :
    Oper.wp P o a w1 K Q := by
  subst hw
  have hb : (n + 1) * bytes ≤ 140737488355328 := by
    have := Nat.mul_le_mul hn hby
    omega
  refine wp_append_lies _ s x T ho base E i z sz bytes hT hi hz h1 h2 hzs hsz v n L hs (hown.alloc _) ⟨w0.heap.size, 0, none⟩ 1 1 cs hx (by omega) (World.news_of_block (Own.new w0 E cs)) hone (by omega) (by unfold maxLen; omega) hb (by simp; omega) _ rfl ?_
  intro g cap w' hown' hgrow _ _
  refine h g cap w' hown' (fun W hW => ?_) (fun b E' L' hO hne => ?_)
  · exact grown_below (hW.alloc hbase _) (hown.alloc _) (by simp; omega) hgrow
  · have hO2 : Own (w0.alloc (.cells cs.toArray E)) b E' L' := hO.alloc _
    exact (hgrow.block b hO2.lt (fun e => hne b e.symm rfl)).trans hO2
end Go.Proofs.YtnbodmbagendnaaGreatDoor
namespace Go.Proofs.YtnbodmbagendnaaGreatDoor
open Go.ChangeShapes Go.WideShapes Go.ChangeAt Go.RowKit Go.Deep Go.Joins
set_option linter.unusedVariables false
set_option maxRecDepth 100000
set_option linter.unusedSimpArgs false
def marksString (k : Int) (n : Nat) : List Value := (List.range n).flatMap fun i => [.string (markT (k + 1 * (i : Nat)).toNat)]
theorem marksString_succ (k : Int) (j : Nat) : marksString k (j + 1) = marksString k j ++ [.string (markT (k + 1 * (j : Nat)).toNat)] ∧ (marksString k j).length = j * 1 := marks_succ (s := 1) _ (fun _ => rfl) j
theorem marksString_get (k : Int) (n j : Nat) (h : j < n) (x : Nat) (hx : x < 1) : (marksString k n)[j * 1 + x]? = ([.string (markT (k + 1 * (j : Nat)).toNat)] : List Value)[x]? := by
  unfold marksString
  rw [flat_get (s := 1) (List.range n) (fun _ _ => rfl) hx j]
  simp [List.getElem?_range h]
end Go.Proofs.YtnbodmbagendnaaGreatDoor
