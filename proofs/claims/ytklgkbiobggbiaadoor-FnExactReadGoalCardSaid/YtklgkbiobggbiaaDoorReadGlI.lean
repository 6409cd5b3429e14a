/- ReadGoal: the program. -/
import Derived.Test.YtklgkbiobggbiaaDoorRows
import Derived.Test.YtklgkbiobggbiaaDoorReadGl
import Derived.Test.YtklgkbiobggbiaaDoorReadSoI
namespace Go.Proofs.YtklgkbiobggbiaaDoor
open Go.ChangeShapes Go.WideShapes Go.ChangeAt Go.RowKit Go.Deep Go.Joins
set_option linter.unusedVariables false
set_option maxRecDepth 100000
set_option linter.unusedSimpArgs false
theorem impl_joinG (c : UInt8) (w : World) (v : Value) (xs : List ByteArray) (h : Rd w.heap.size w v 1 xs.length (xs.flatMap putStr)) (h0 : 0 < xs.length) (hn : xs.length ≤ 1048576) (hs : (joinT c xs).size ≤ 1048576) :
    Calls Tryd.prog 53 #[v, .string ⟨#[c]⟩] w fun e w' => e = .returned (.string (joinT c xs)) ∧ Below w.heap.size w w' := by
  obtain ⟨hL, ao, cap, rfl, hcap, hmax, hnil, hsome⟩ := h
  obtain ⟨b, off, rfl, hb, hc⟩ := hsome h0
  refine Any.strings_Join Tryd.layJoin extraJoin b off cap xs ⟨#[c]⟩ w (fun j x hx => ?_) hb (by omega) hcap ?_
  · have hj := (List.getElem?_eq_some_iff.1 hx).1
    rw [hc j (by omega), putStr_get xs j hj]
    have := (List.getElem?_eq_some_iff.1 hx).2
    rw [this]
  · have e : (joinT c xs).size = (Lib.join (xs.map (·.data.toList)) [c]).length := by unfold joinT ByteArray.size; simp
    have e2 : (⟨#[c]⟩ : ByteArray).data.toList = [c] := rfl
    rw [e2]
    omega
set_option maxHeartbeats 2000000 in
theorem impl_ValidGoal_is {b : Bool} (w : World) (x : Gl) (hb : glB x = b) :
    Calls Tryd.prog 54 #[.agg #[.int .i64 x.t.a, .int .i64 x.t.b, .int .i64 x.t.c, .int .i64 x.t.d, .int .i64 x.t.e, .int .i64 x.tol, .int .i64 x.most]] w fun r w' => r = .returned (.bool b) ∧ Below w.heap.size w w' := by
  have HV0 := Lib.hid (fun w' => impl_ValidSound_is (b := sndB x.t) w' x.t rfl)
  have VB : Hid (Own (w.alloc (.cells #[.int .i64 x.t.a, .int .i64 x.t.b, .int .i64 x.t.c, .int .i64 x.t.d, .int .i64 x.t.e, .int .i64 x.tol, .int .i64 x.most] 45)) w.heap.size 45 [.int .i64 x.t.a, .int .i64 x.t.b, .int .i64 x.t.c, .int .i64 x.t.d, .int .i64 x.t.e, .int .i64 x.tol, .int .i64 x.most]) := Lib.hid (Own.new w _ _)
  have HB0 : Hid (Below w.heap.size w (w.alloc (.cells #[.int .i64 x.t.a, .int .i64 x.t.b, .int .i64 x.t.c, .int .i64 x.t.d, .int .i64 x.t.e, .int .i64 x.tol, .int .i64 x.most] 45))) := Lib.hid ((Below.refl _ _).alloc (Nat.le_refl _) _)
  unfold glB at hb
  obtain ⟨xt, tol, most⟩ := x
  cases hs : sndB xt with
  | false =>
    have e : Hid (b = false) := Lib.hid (by rw [← hb]; show (sndB xt && _) = false; rw [hs]; rfl)
    rw [show sndB (Gl.t ⟨xt, tol, most⟩) = false from hs] at HV0
    clear hb hs
    go_enter Tryd.func54, Tryd.ntmps54
    go_wp2_with fail
    refine (HV0.out _).mono ?_; rintro r1 w1 ⟨rfl, b1⟩
    have HB1 := Lib.hid (bnext HB0.out b1); clear b1 VB
    go_wp2_with fail
    go_ret
    exact ⟨by rw [e.out]; try rfl, HB1.out⟩
  | true =>
    rw [show sndB (Gl.t ⟨xt, tol, most⟩) = true from hs] at HV0
    have hb2 : (inB tol 0 20000 && inB most 0 20) = b := by rw [← hb]; show _ = (sndB xt && _); rw [hs]; rfl
    clear hb hs
    cases h1 : inB tol 0 20000 with
    | false =>
      have e : Hid (b = false) := Lib.hid (by rw [← hb2, h1]; rfl)
      clear hb2
      go_enter Tryd.func54, Tryd.ntmps54
      go_wp2_with fail
      refine (HV0.out _).mono ?_; rintro r1 w1 ⟨rfl, b1⟩
      have HB1 := Lib.hid (bnext HB0.out b1)
      have V1 := Lib.hid (VB.out.below b1 VB.out.lt)
      have v5 : w1.cell? ⟨w.heap.size, 5, none⟩ = some (.int .i64 tol) := V1.out.cell 5
      have v6 : w1.cell? ⟨w.heap.size, 6, none⟩ = some (.int .i64 most) := V1.out.cell 6
      have vl := V1.out.lt
      clear b1 VB
      go_wp2_with (go_at_call_of 70 tol; refine (within_is _ _ _ _ h1).mono ?_; rintro e w' ⟨rfl, rfl⟩)
      go_ret
      exact ⟨by rw [e.out]; try rfl, HB1.out⟩
    | true =>
      have h2 : inB most 0 20 = b := by rw [← hb2, h1]; rfl
      clear hb2
      go_enter Tryd.func54, Tryd.ntmps54
      go_wp2_with fail
      refine (HV0.out _).mono ?_; rintro r1 w1 ⟨rfl, b1⟩
      have HB1 := Lib.hid (bnext HB0.out b1)
      have V1 := Lib.hid (VB.out.below b1 VB.out.lt)
      have v5 : w1.cell? ⟨w.heap.size, 5, none⟩ = some (.int .i64 tol) := V1.out.cell 5
      have v6 : w1.cell? ⟨w.heap.size, 6, none⟩ = some (.int .i64 most) := V1.out.cell 6
      have vl := V1.out.lt
      clear b1 VB
      go_wp2_with (first | (go_at_call_of 70 tol; refine (within_is _ _ _ _ h1).mono ?_; rintro e w' ⟨rfl, rfl⟩) | (go_at_call_of 70 most; refine (within_is _ _ _ _ h2).mono ?_; rintro e w' ⟨rfl, rfl⟩))
      go_ret
      exact ⟨rfl, HB1.out⟩
theorem decT_sizeS {n : Int} (h0 : 0 ≤ n) (h1 : n ≤ 20000) : (decT n).size ≤ 21 := by
  by_cases h : n = 0
  · subst h
    rw [show decT 0 = ⟨(Lib.decDigits 0).toArray⟩ from decT_nat 0, Lib.decDigits, dif_pos (by decide)]
    show 1 ≤ 21
    decide
  · have := decT_size20 n (by omega) (by omega)
    omega
theorem sndT_size {x : Snd} (h : sndB x = true) : (sndT x).size ≤ 155 := joinT_size 32 30 _ (sndT_sizes h)
set_option maxHeartbeats 4000000 in
theorem impl_GoalText (w : World) (x : Gl) (hb : glB x = true) (hp : Pow10 w) :
    Calls Tryd.prog 55 #[.agg #[.int .i64 x.t.a, .int .i64 x.t.b, .int .i64 x.t.c, .int .i64 x.t.d, .int .i64 x.t.e, .int .i64 x.tol, .int .i64 x.most]] w fun r w' => r = .returned (.string (glT x)) ∧ Below w.heap.size w w' := by
  have HV0 := Lib.hid (fun w' => impl_ValidGoal_is w' x hb)
  have VB : Hid (Own (w.alloc (.cells #[.int .i64 x.t.a, .int .i64 x.t.b, .int .i64 x.t.c, .int .i64 x.t.d, .int .i64 x.t.e, .int .i64 x.tol, .int .i64 x.most] 45)) w.heap.size 45 [.int .i64 x.t.a, .int .i64 x.t.b, .int .i64 x.t.c, .int .i64 x.t.d, .int .i64 x.t.e, .int .i64 x.tol, .int .i64 x.most]) := Lib.hid (Own.new w _ _)
  have HB0 : Hid (Below w.heap.size w (w.alloc (.cells #[.int .i64 x.t.a, .int .i64 x.t.b, .int .i64 x.t.c, .int .i64 x.t.d, .int .i64 x.t.e, .int .i64 x.tol, .int .i64 x.most] 45))) := Lib.hid ((Below.refl _ _).alloc (Nat.le_refl _) _)
  have et := Lib.hid (glT_text x)
  unfold glB at hb
  rw [Bool.and_eq_true, Bool.and_eq_true] at hb
  obtain ⟨hs, h1, h2⟩ := hb
  have b1 := inB_true h1
  have b2 := inB_true h2
  have HX := Lib.hid (fun w' (h' : Below w.heap.size w w') x0 => aboveC (impl_SoundText (above w' x0) x.t hs ((hp.below h').below (above_below _ _))))
  have HD1 := Lib.hid (fun w' (h' : Below w.heap.size w w') x0 => aboveC (impl_Decimal x.tol (above w' x0) (by omega) (by omega) ((hp.below h').below (above_below _ _))))
  have HD2 := Lib.hid (fun w' (h' : Below w.heap.size w w') x0 => aboveC (impl_Decimal x.most (above w' x0) (by omega) (by omega) ((hp.below h').below (above_below _ _))))
  have g0 := sndT_size hs
  have g1 := decT_sizeS (n := x.tol) (by omega) (by omega)
  have g2 := decT_sizeS (n := x.most) (by omega) (by omega)
  obtain ⟨xt, tol, most⟩ := x
  clear hs h1 h2 b1 b2 hp
  generalize hS : sndT (Gl.t ⟨xt, tol, most⟩) = S at *
  generalize hD1 : decT (Gl.tol ⟨xt, tol, most⟩) = D1 at *
  generalize hD2 : decT (Gl.most ⟨xt, tol, most⟩) = D2 at *
  clear hS hD1 hD2
  have s0 : (⟨#[32]⟩ : ByteArray).size = 1 := rfl
  have s1 : (S ++ (⟨#[32]⟩ : ByteArray)).size = S.size + 1 := by rw [ByteArray.size_append]; rfl
  have s2 : (S ++ (⟨#[32]⟩ : ByteArray) ++ D1).size = S.size + 1 + D1.size := by rw [ByteArray.size_append, s1]
  have s3 : (S ++ (⟨#[32]⟩ : ByteArray) ++ D1 ++ ⟨#[32]⟩).size = S.size + 1 + D1.size + 1 := by rw [ByteArray.size_append, s2]; rfl
  go_enter Tryd.func55, Tryd.ntmps55
  go_wp2_with fail
  refine (HV0.out _).mono ?_; rintro r1 w1 ⟨rfl, b1⟩
  have HB1 := Lib.hid (bnext HB0.out b1)
  have V1 := Lib.hid (VB.out.below b1 VB.out.lt)
  have v0 : w1.cell? ⟨w.heap.size, 0, none⟩ = some (.int .i64 xt.a) := V1.out.cell 0
  have v1 : w1.cell? ⟨w.heap.size, 1, none⟩ = some (.int .i64 xt.b) := V1.out.cell 1
  have v2 : w1.cell? ⟨w.heap.size, 2, none⟩ = some (.int .i64 xt.c) := V1.out.cell 2
  have v3 : w1.cell? ⟨w.heap.size, 3, none⟩ = some (.int .i64 xt.d) := V1.out.cell 3
  have v4 : w1.cell? ⟨w.heap.size, 4, none⟩ = some (.int .i64 xt.e) := V1.out.cell 4
  have v5 : w1.cell? ⟨w.heap.size, 5, none⟩ = some (.int .i64 tol) := V1.out.cell 5
  have v6 : w1.cell? ⟨w.heap.size, 6, none⟩ = some (.int .i64 most) := V1.out.cell 6
  have vl := V1.out.lt
  clear b1 VB
  go_wp2_with fail
  refine wp_region_above (by kernel_rfl) (by kernel_rfl) ?_
  repeat (go_big_quiet_step ((first | (go_at_call 90; exact (HX.out _ HB1.out _)) | (go_at_call_of 81 tol; exact (HD1.out _ HB1.out _)) | (go_at_call_of 81 most; exact (HD2.out _ HB1.out _)))))
  refine wpQuiet_nil ?_
  intro w2 b2
  have HB2 := Lib.hid (bnext HB1.out b2)
  clear b2
  go_wp2_with fail
  go_ret
  exact ⟨by rw [et.out]; try rfl, HB2.out⟩
set_option maxHeartbeats 16000000 in
theorem impl_ReadGoal (s : ByteArray) (w : World) (hs : s.size ≤ 1048576) (hm : MaxL w) (hp : Pow10 w) (he : ErrS w) :
    Calls Tryd.prog 20 #[.string s] w fun e w' => e = .returned (.tuple #[.agg #[.int .i64 (glV s).t.a, .int .i64 (glV s).t.b, .int .i64 (glV s).t.c, .int .i64 (glV s).t.d, .int .i64 (glV s).t.e, .int .i64 (glV s).tol, .int .i64 (glV s).most], .bool (glR s).isSome]) ∧ Below w.heap.size w w' := by
  have HM := Lib.hid hm; clear hm
  have HP := Lib.hid hp; clear hp
  have HE := Lib.hid he; clear he
  have HR0 : Hid (Own (w.alloc (.cells #[.int .i64 0, .int .i64 0, .int .i64 0, .int .i64 0, .int .i64 0, .int .i64 0, .int .i64 0] 45)) w.heap.size 45 [.int .i64 0, .int .i64 0, .int .i64 0, .int .i64 0, .int .i64 0, .int .i64 0, .int .i64 0]) := Lib.hid (Own.new w _ _)
  have HB0 : Hid (Below w.heap.size w (w.alloc (.cells #[.int .i64 0, .int .i64 0, .int .i64 0, .int .i64 0, .int .i64 0, .int .i64 0, .int .i64 0] 45))) := Lib.hid ((Below.refl _ _).alloc (Nat.le_refl _) _)
  have H32 := Lib.hid (fun w' (h1 : MaxL w') => impl_Split 32 s w' hs h1)
  have hwz := Lib.hid (fun x (hx : x ∈ partsS 32 s) => partsS_size x hx)
  by_cases h7 : (partsS 32 s).length = 7
  case neg =>
    have e := Lib.hid (glV_none (glR_not7 h7))
    have t2 : (((partsS 32 s).length : Int) != 7) = true := bne_iff_ne.2 (by omega)
    clear h7
    generalize partsS 32 s = ws at *
    go_enter Tryd.func20, Tryd.ntmps20
    go_wp2_with fail
    refine (H32.out _ (HM.out.below HB0.out)).mono ?_; rintro e w1 ⟨rfl, o1, b1⟩
    have HR1 := Lib.hid (HR0.out.below b1 HR0.out.lt)
    have HB1 := Lib.hid (bnext HB0.out b1)
    clear o1 b1 HR0 HB0
    have q0 : w1.cell? ⟨w.heap.size, 0, none⟩ = some (.int .i64 0) := HR1.out.cell 0
    have q1 : w1.cell? ⟨w.heap.size, 1, none⟩ = some (.int .i64 0) := HR1.out.cell 1
    have q2 : w1.cell? ⟨w.heap.size, 2, none⟩ = some (.int .i64 0) := HR1.out.cell 2
    have q3 : w1.cell? ⟨w.heap.size, 3, none⟩ = some (.int .i64 0) := HR1.out.cell 3
    have q4 : w1.cell? ⟨w.heap.size, 4, none⟩ = some (.int .i64 0) := HR1.out.cell 4
    have q5 : w1.cell? ⟨w.heap.size, 5, none⟩ = some (.int .i64 0) := HR1.out.cell 5
    have q6 : w1.cell? ⟨w.heap.size, 6, none⟩ = some (.int .i64 0) := HR1.out.cell 6
    have fq0 := HR1.out.free 0
    have fq1 := HR1.out.free 1
    have fq2 := HR1.out.free 2
    have fq3 := HR1.out.free 3
    have fq4 := HR1.out.free 4
    have fq5 := HR1.out.free 5
    have fq6 := HR1.out.free 6
    have hltq : w.heap.size < w1.heap.size := HR1.out.lt
    have hneq : ¬ w.heap.size = w1.heap.size := by omega
    go_wp2_with fail
    have hb := HB1.out
    exact bodyPost_ret (v := .tuple #[.agg #[.int .i64 0, .int .i64 0, .int .i64 0, .int .i64 0, .int .i64 0, .int .i64 0, .int .i64 0], .bool false]) (by simp [results, Tryd.results20, go_sem, q0, q1, q2, q3, q4, q5, q6, hltq, hneq]) rfl ⟨by rw [e.out.1, e.out.2]; try rfl, by (repeat' (first | (with_reducible exact Below.refl _ _) | (with_reducible assumption) | (with_reducible refine below_dn ?_ _) | (with_reducible refine Below.drew ?_) | (with_reducible refine Below.alloc ?_ ?_ _) | (with_reducible refine Below.setCell ?_ ?_ _) | go_size))⟩
  obtain ⟨a, b, c, d, z, u, v, hab⟩ := seven_of h7
  have hz : ∀ x ∈ [a, b, c, d, z, u, v], x.size ≤ 1048576 := fun x hx => Nat.le_trans (hwz.out x (by rw [hab]; exact hx)) hs
  have zu := hz u (by simp)
  have zv := hz v (by simp)
  have hj := Nat.le_trans (join_size5 hab) hs
  have HJ := Lib.hid (fun (w' : World) (ao : Option Addr) (cap : Nat) (h : Rd w'.heap.size w' (.slice ao 5 cap) 1 5 ([a, b, c, d, z].flatMap putStr)) => impl_joinG 32 w' (.slice ao 5 cap) [a, b, c, d, z] h (by simp) (by simp) hj)
  have HSO := Lib.hid (fun w' h1 h2 h3 => impl_ReadSound (joinT 32 [a, b, c, d, z]) w' hj h1 h2 h3)
  have HN5 := Lib.hid (fun w' h1 h2 => impl_ReadDecimal u w' (by omega) h1 h2)
  have HN6 := Lib.hid (fun w' h1 h2 => impl_ReadDecimal v w' (by omega) h1 h2)
  have HT := Lib.hid (gl_facts hab (x := ⟨sndV (joinT 32 [a, b, c, d, z]), numV u, numV v⟩) rfl rfl rfl)
  generalize sndV (joinT 32 [a, b, c, d, z]) = T at *
  generalize (sndR (joinT 32 [a, b, c, d, z])).isSome = one at *
  generalize joinT 32 [a, b, c, d, z] = J at *
  clear hj
  generalize numV u = m at *
  generalize (numS u).isSome = two at *
  generalize numV v = n at *
  generalize (numS v).isSome = three at *
  rw [hab] at H32
  have H32' : Hid (∀ w' : World, MaxL w' → Calls Tryd.prog 36 #[.string s, .string ⟨#[32]⟩] w' fun e w'' => e = .returned (.slice (some ⟨w'.heap.size, 0, none⟩) 7 7) ∧ Own w'' w'.heap.size 9 ([a, b, c, d, z, u, v].flatMap putStr) ∧ Below w'.heap.size w' w'') := H32
  clear h7 hwz hz H32 hab zu zv
  go_enter Tryd.func20, Tryd.ntmps20
  go_wp2_with fail
  refine (H32'.out _ (HM.out.below HB0.out)).mono ?_; rintro e w1 ⟨rfl, ow, b1⟩
  obtain ⟨gx, hgx'⟩ : ∃ gx, (w.alloc (.cells #[.int .i64 0, .int .i64 0, .int .i64 0, .int .i64 0, .int .i64 0, .int .i64 0, .int .i64 0] 45)).heap.size = gx := ⟨_, rfl⟩
  rw [hgx'] at ow
  rw [hgx']
  have hgw : w.heap.size < gx := by rw [← hgx']; simp
  have HR1 := Lib.hid (HR0.out.below b1 HR0.out.lt)
  have HB1 := Lib.hid (bnext HB0.out b1)
  have HW1 := Lib.hid ow
  have hgx : gx < w1.heap.size := ow.lt
  clear b1 HR0 HB0 ow hgx'
  have HR2 : Hid (Own (w1.alloc (.cells #[.int .i64 0, .int .i64 0, .int .i64 0, .int .i64 0, .int .i64 0, .int .i64 0, .int .i64 0] 45)) w.heap.size 45 [.int .i64 0, .int .i64 0, .int .i64 0, .int .i64 0, .int .i64 0, .int .i64 0, .int .i64 0]) := Lib.hid (HR1.out.alloc _)
  have HW2 : Hid (Own (w1.alloc (.cells #[.int .i64 0, .int .i64 0, .int .i64 0, .int .i64 0, .int .i64 0, .int .i64 0, .int .i64 0] 45)) gx 9 ([a, b, c, d, z, u, v].flatMap putStr)) := Lib.hid (HW1.out.alloc _)
  have HG2 : Hid (Own (w1.alloc (.cells #[.int .i64 0, .int .i64 0, .int .i64 0, .int .i64 0, .int .i64 0, .int .i64 0, .int .i64 0] 45)) w1.heap.size 45 [.int .i64 0, .int .i64 0, .int .i64 0, .int .i64 0, .int .i64 0, .int .i64 0, .int .i64 0]) := Lib.hid (Own.new w1 _ _)
  have HB2 : Hid (Below w.heap.size w (w1.alloc (.cells #[.int .i64 0, .int .i64 0, .int .i64 0, .int .i64 0, .int .i64 0, .int .i64 0, .int .i64 0] 45))) := Lib.hid (HB1.out.alloc HB1.out.size _)
  have hwg : w.heap.size < w1.heap.size := by omega
  have hxg : gx < w1.heap.size := hgx
  clear HR1 HB1 HW1
  go_wp2_with fail
  generalize (w1.alloc (.cells #[.int .i64 0, .int .i64 0, .int .i64 0, .int .i64 0, .int .i64 0, .int .i64 0, .int .i64 0] 45)) = w2 at *
  have HRW := Lib.hid (((HW2.out.rd HW2.out.lt (n := 7) (s := 1) rfl (by unfold maxLen; omega) _ (Nat.le_refl _) (by unfold maxLen; omega)).takeS (j := 5) (by decide)))
  refine (HJ.out _ _ _ (by exact HRW.out)).mono ?_; rintro e w3 ⟨rfl, b3⟩
  clear HRW HJ
  have HR3 := Lib.hid (HR2.out.below b3 HR2.out.lt)
  have HG3 := Lib.hid (HG2.out.below b3 HG2.out.lt)
  have HW3 := Lib.hid (HW2.out.below b3 HW2.out.lt)
  have HB3 := Lib.hid (bnext HB2.out b3)
  clear b3 HR2 HG2 HW2 HB2
  go_wp2_with fail
  refine (HSO.out _ (HM.out.below HB3.out) (HP.out.below HB3.out) (HE.out.below HB3.out)).mono ?_; rintro e w4 ⟨rfl, b4⟩
  have HR4 := Lib.hid (HR3.out.below b4 HR3.out.lt)
  have HG4 := Lib.hid (HG3.out.below b4 HG3.out.lt)
  have HW4 := Lib.hid (HW3.out.below b4 HW3.out.lt)
  have HB4 := Lib.hid (bnext HB3.out b4)
  clear b4 HR3 HG3 HW3 HB3
  have y0 : w4.cell? ⟨w1.heap.size, 0, none⟩ = some (.int .i64 0) := HG4.out.cell 0
  have fy0 := HG4.out.free 0
  have y1 : w4.cell? ⟨w1.heap.size, 1, none⟩ = some (.int .i64 0) := HG4.out.cell 1
  have fy1 := HG4.out.free 1
  have y2 : w4.cell? ⟨w1.heap.size, 2, none⟩ = some (.int .i64 0) := HG4.out.cell 2
  have fy2 := HG4.out.free 2
  have y3 : w4.cell? ⟨w1.heap.size, 3, none⟩ = some (.int .i64 0) := HG4.out.cell 3
  have fy3 := HG4.out.free 3
  have y4 : w4.cell? ⟨w1.heap.size, 4, none⟩ = some (.int .i64 0) := HG4.out.cell 4
  have fy4 := HG4.out.free 4
  have hly : w1.heap.size < w4.heap.size := HG4.out.lt
  have hne : ¬ w1.heap.size = gx := by omega
  have hne2 : ¬ gx = w1.heap.size := by omega
  have d5 : w4.cell? ⟨gx, 5, none⟩ = some (.string u) := HW4.out.cell 5
  have hlx : gx < w4.heap.size := HW4.out.lt
  have HG5 : Hid (Own (((((w4.setCell ⟨w1.heap.size, 0, none⟩ (.int .i64 T.a)).setCell ⟨w1.heap.size, 1, none⟩ (.int .i64 T.b)).setCell ⟨w1.heap.size, 2, none⟩ (.int .i64 T.c)).setCell ⟨w1.heap.size, 3, none⟩ (.int .i64 T.d)).setCell ⟨w1.heap.size, 4, none⟩ (.int .i64 T.e)) w1.heap.size 45 [.int .i64 T.a, .int .i64 T.b, .int .i64 T.c, .int .i64 T.d, .int .i64 T.e, .int .i64 0, .int .i64 0]) := Lib.hid ((((((HG4.out).set 0 _).set 1 _).set 2 _).set 3 _).set 4 _)
  have HR5 : Hid (Own (((((w4.setCell ⟨w1.heap.size, 0, none⟩ (.int .i64 T.a)).setCell ⟨w1.heap.size, 1, none⟩ (.int .i64 T.b)).setCell ⟨w1.heap.size, 2, none⟩ (.int .i64 T.c)).setCell ⟨w1.heap.size, 3, none⟩ (.int .i64 T.d)).setCell ⟨w1.heap.size, 4, none⟩ (.int .i64 T.e)) w.heap.size 45 [.int .i64 0, .int .i64 0, .int .i64 0, .int .i64 0, .int .i64 0, .int .i64 0, .int .i64 0]) := Lib.hid ((((((HR4.out).other (by show w1.heap.size ≠ w.heap.size; omega) _).other (by show w1.heap.size ≠ w.heap.size; omega) _).other (by show w1.heap.size ≠ w.heap.size; omega) _).other (by show w1.heap.size ≠ w.heap.size; omega) _).other (by show w1.heap.size ≠ w.heap.size; omega) _)
  have HW5 : Hid (Own (((((w4.setCell ⟨w1.heap.size, 0, none⟩ (.int .i64 T.a)).setCell ⟨w1.heap.size, 1, none⟩ (.int .i64 T.b)).setCell ⟨w1.heap.size, 2, none⟩ (.int .i64 T.c)).setCell ⟨w1.heap.size, 3, none⟩ (.int .i64 T.d)).setCell ⟨w1.heap.size, 4, none⟩ (.int .i64 T.e)) gx 9 ([a, b, c, d, z, u, v].flatMap putStr)) := Lib.hid ((((((HW4.out).other (by show w1.heap.size ≠ gx; omega) _).other (by show w1.heap.size ≠ gx; omega) _).other (by show w1.heap.size ≠ gx; omega) _).other (by show w1.heap.size ≠ gx; omega) _).other (by show w1.heap.size ≠ gx; omega) _)
  have HB5 : Hid (Below w.heap.size w (((((w4.setCell ⟨w1.heap.size, 0, none⟩ (.int .i64 T.a)).setCell ⟨w1.heap.size, 1, none⟩ (.int .i64 T.b)).setCell ⟨w1.heap.size, 2, none⟩ (.int .i64 T.c)).setCell ⟨w1.heap.size, 3, none⟩ (.int .i64 T.d)).setCell ⟨w1.heap.size, 4, none⟩ (.int .i64 T.e))) := Lib.hid (Below.setCell (Below.setCell (Below.setCell (Below.setCell (Below.setCell (HB4.out) (by show w.heap.size ≤ w1.heap.size; omega) _) (by show w.heap.size ≤ w1.heap.size; omega) _) (by show w.heap.size ≤ w1.heap.size; omega) _) (by show w.heap.size ≤ w1.heap.size; omega) _) (by show w.heap.size ≤ w1.heap.size; omega) _)
  go_wp2_with fail
  generalize (((((w4.setCell ⟨w1.heap.size, 0, none⟩ (.int .i64 T.a)).setCell ⟨w1.heap.size, 1, none⟩ (.int .i64 T.b)).setCell ⟨w1.heap.size, 2, none⟩ (.int .i64 T.c)).setCell ⟨w1.heap.size, 3, none⟩ (.int .i64 T.d)).setCell ⟨w1.heap.size, 4, none⟩ (.int .i64 T.e)) = w5 at *
  clear HR4 HG4 HW4 HB4 y0 fy0 y1 fy1 y2 fy2 y3 fy3 y4 fy4 d5 hly hlx
  refine (HN5.out _ (HP.out.below HB5.out) (HE.out.below HB5.out)).mono ?_; rintro e w6 ⟨rfl, b6⟩
  have HR6 := Lib.hid (HR5.out.below b6 HR5.out.lt)
  have HG6 := Lib.hid (HG5.out.below b6 HG5.out.lt)
  have HW6 := Lib.hid (HW5.out.below b6 HW5.out.lt)
  have HB6 := Lib.hid (bnext HB5.out b6)
  clear b6 HR5 HG5 HW5 HB5
  have y5 : w6.cell? ⟨w1.heap.size, 5, none⟩ = some (.int .i64 0) := HG6.out.cell 5
  have fy5 := HG6.out.free 5
  have hly : w1.heap.size < w6.heap.size := HG6.out.lt
  have d6 : w6.cell? ⟨gx, 6, none⟩ = some (.string v) := HW6.out.cell 6
  have hlx : gx < w6.heap.size := HW6.out.lt
  have HG7 : Hid (Own (w6.setCell ⟨w1.heap.size, 5, none⟩ (.int .i64 m)) w1.heap.size 45 [.int .i64 T.a, .int .i64 T.b, .int .i64 T.c, .int .i64 T.d, .int .i64 T.e, .int .i64 m, .int .i64 0]) := Lib.hid ((HG6.out).set 5 _)
  have HR7 : Hid (Own (w6.setCell ⟨w1.heap.size, 5, none⟩ (.int .i64 m)) w.heap.size 45 [.int .i64 0, .int .i64 0, .int .i64 0, .int .i64 0, .int .i64 0, .int .i64 0, .int .i64 0]) := Lib.hid ((HR6.out).other (by show w1.heap.size ≠ w.heap.size; omega) _)
  have HW7 : Hid (Own (w6.setCell ⟨w1.heap.size, 5, none⟩ (.int .i64 m)) gx 9 ([a, b, c, d, z, u, v].flatMap putStr)) := Lib.hid ((HW6.out).other (by show w1.heap.size ≠ gx; omega) _)
  have HB7 : Hid (Below w.heap.size w (w6.setCell ⟨w1.heap.size, 5, none⟩ (.int .i64 m))) := Lib.hid (Below.setCell (HB6.out) (by show w.heap.size ≤ w1.heap.size; omega) _)
  go_wp2_with fail
  generalize (w6.setCell ⟨w1.heap.size, 5, none⟩ (.int .i64 m)) = w7 at *
  clear HR6 HG6 HW6 HB6 y5 fy5 d6 hly hlx
  refine (HN6.out _ (HP.out.below HB7.out) (HE.out.below HB7.out)).mono ?_; rintro e w8 ⟨rfl, b8⟩
  have HR8 := Lib.hid (HR7.out.below b8 HR7.out.lt)
  have HG8 := Lib.hid (HG7.out.below b8 HG7.out.lt)
  have HW8 := Lib.hid (HW7.out.below b8 HW7.out.lt)
  have HB8 := Lib.hid (bnext HB7.out b8)
  clear b8 HR7 HG7 HW7 HB7
  have y6 : w8.cell? ⟨w1.heap.size, 6, none⟩ = some (.int .i64 0) := HG8.out.cell 6
  have fy6 := HG8.out.free 6
  have y0 : w8.cell? ⟨w1.heap.size, 0, none⟩ = some (.int .i64 T.a) := HG8.out.cell 0
  have fy0 := HG8.out.free 0
  have y1 : w8.cell? ⟨w1.heap.size, 1, none⟩ = some (.int .i64 T.b) := HG8.out.cell 1
  have fy1 := HG8.out.free 1
  have y2 : w8.cell? ⟨w1.heap.size, 2, none⟩ = some (.int .i64 T.c) := HG8.out.cell 2
  have fy2 := HG8.out.free 2
  have y3 : w8.cell? ⟨w1.heap.size, 3, none⟩ = some (.int .i64 T.d) := HG8.out.cell 3
  have fy3 := HG8.out.free 3
  have y4 : w8.cell? ⟨w1.heap.size, 4, none⟩ = some (.int .i64 T.e) := HG8.out.cell 4
  have fy4 := HG8.out.free 4
  have y5 : w8.cell? ⟨w1.heap.size, 5, none⟩ = some (.int .i64 m) := HG8.out.cell 5
  have fy5 := HG8.out.free 5
  have hly : w1.heap.size < w8.heap.size := HG8.out.lt
  have HG9 : Hid (Own (w8.setCell ⟨w1.heap.size, 6, none⟩ (.int .i64 n)) w1.heap.size 45 [.int .i64 T.a, .int .i64 T.b, .int .i64 T.c, .int .i64 T.d, .int .i64 T.e, .int .i64 m, .int .i64 n]) := Lib.hid ((HG8.out).set 6 _)
  have HR9 : Hid (Own (w8.setCell ⟨w1.heap.size, 6, none⟩ (.int .i64 n)) w.heap.size 45 [.int .i64 0, .int .i64 0, .int .i64 0, .int .i64 0, .int .i64 0, .int .i64 0, .int .i64 0]) := Lib.hid ((HR8.out).other (by show w1.heap.size ≠ w.heap.size; omega) _)
  have HW9 : Hid (Own (w8.setCell ⟨w1.heap.size, 6, none⟩ (.int .i64 n)) gx 9 ([a, b, c, d, z, u, v].flatMap putStr)) := Lib.hid ((HW8.out).other (by show w1.heap.size ≠ gx; omega) _)
  have HB9 : Hid (Below w.heap.size w (w8.setCell ⟨w1.heap.size, 6, none⟩ (.int .i64 n))) := Lib.hid (Below.setCell (HB8.out) (by show w.heap.size ≤ w1.heap.size; omega) _)
  have HVG := Lib.hid (fun w' => impl_ValidGoal_is (b := glB ⟨T, m, n⟩) w' ⟨T, m, n⟩ rfl)
  have HTT := HT.out
  cases hq : glB ⟨T, m, n⟩ with
  | false =>
    have e := Lib.hid (glV_none (HTT.2.1 hq))
    rw [hq] at HVG
    clear hq HTT HT
    go_wp2_with fail
    generalize (w8.setCell ⟨w1.heap.size, 6, none⟩ (.int .i64 n)) = w9 at *
    clear HR8 HG8 HW8 HB8 y0 fy0 y1 fy1 y2 fy2 y3 fy3 y4 fy4 y5 fy5 y6 fy6 hly HW9
    refine (HVG.out _).mono ?_; rintro e w10 ⟨rfl, b10⟩
    have HR10 := Lib.hid (HR9.out.below b10 HR9.out.lt)
    have HG10 := Lib.hid (HG9.out.below b10 HG9.out.lt)
    have HB10 := Lib.hid (bnext HB9.out b10)
    clear b10 HR9 HG9 HB9
    have q0 : w10.cell? ⟨w.heap.size, 0, none⟩ = some (.int .i64 0) := HR10.out.cell 0
    have q1 : w10.cell? ⟨w.heap.size, 1, none⟩ = some (.int .i64 0) := HR10.out.cell 1
    have q2 : w10.cell? ⟨w.heap.size, 2, none⟩ = some (.int .i64 0) := HR10.out.cell 2
    have q3 : w10.cell? ⟨w.heap.size, 3, none⟩ = some (.int .i64 0) := HR10.out.cell 3
    have q4 : w10.cell? ⟨w.heap.size, 4, none⟩ = some (.int .i64 0) := HR10.out.cell 4
    have q5 : w10.cell? ⟨w.heap.size, 5, none⟩ = some (.int .i64 0) := HR10.out.cell 5
    have q6 : w10.cell? ⟨w.heap.size, 6, none⟩ = some (.int .i64 0) := HR10.out.cell 6
    have fq0 := HR10.out.free 0
    have fq1 := HR10.out.free 1
    have fq2 := HR10.out.free 2
    have fq3 := HR10.out.free 3
    have fq4 := HR10.out.free 4
    have fq5 := HR10.out.free 5
    have fq6 := HR10.out.free 6
    have hltq : w.heap.size < w10.heap.size := HR10.out.lt
    have hneq : ¬ w.heap.size = w10.heap.size := by omega
    go_wp2_with fail
    have hb := HB10.out
    exact bodyPost_ret (v := .tuple #[.agg #[.int .i64 0, .int .i64 0, .int .i64 0, .int .i64 0, .int .i64 0, .int .i64 0, .int .i64 0], .bool false]) (by simp [results, Tryd.results20, go_sem, q0, q1, q2, q3, q4, q5, q6, hltq, hneq]) rfl ⟨by rw [e.out.1, e.out.2]; try rfl, by (repeat' (first | (with_reducible exact Below.refl _ _) | (with_reducible assumption) | (with_reducible refine below_dn ?_ _) | (with_reducible refine Below.drew ?_) | (with_reducible refine Below.alloc ?_ ?_ _) | (with_reducible refine Below.setCell ?_ ?_ _) | go_size))⟩
  | true =>
    by_cases hqt : glT ⟨T, m, n⟩ = s
    case pos =>
      have e := Lib.hid (glV_some (HTT.1 hq hqt))
      have HTX := Lib.hid (fun w' (h1 : Pow10 w') => impl_GoalText w' ⟨T, m, n⟩ hq h1)
      have tq := text_eq hqt
      obtain ⟨tx, htx⟩ : ∃ tx, glT ⟨T, m, n⟩ = tx := ⟨_, rfl⟩
      rw [htx] at HTX tq
      rw [hq] at HVG
      clear hqt htx hq HTT HT
      go_wp2_with fail
      generalize (w8.setCell ⟨w1.heap.size, 6, none⟩ (.int .i64 n)) = w9 at *
      clear HR8 HG8 HW8 HB8 y0 fy0 y1 fy1 y2 fy2 y3 fy3 y4 fy4 y5 fy5 y6 fy6 hly HW9
      refine (HVG.out _).mono ?_; rintro e w10 ⟨rfl, b10⟩
      have HR10 := Lib.hid (HR9.out.below b10 HR9.out.lt)
      have HG10 := Lib.hid (HG9.out.below b10 HG9.out.lt)
      have HB10 := Lib.hid (bnext HB9.out b10)
      clear b10 HR9 HG9 HB9
      have y0 : w10.cell? ⟨w1.heap.size, 0, none⟩ = some (.int .i64 T.a) := HG10.out.cell 0
      have y1 : w10.cell? ⟨w1.heap.size, 1, none⟩ = some (.int .i64 T.b) := HG10.out.cell 1
      have y2 : w10.cell? ⟨w1.heap.size, 2, none⟩ = some (.int .i64 T.c) := HG10.out.cell 2
      have y3 : w10.cell? ⟨w1.heap.size, 3, none⟩ = some (.int .i64 T.d) := HG10.out.cell 3
      have y4 : w10.cell? ⟨w1.heap.size, 4, none⟩ = some (.int .i64 T.e) := HG10.out.cell 4
      have y5 : w10.cell? ⟨w1.heap.size, 5, none⟩ = some (.int .i64 m) := HG10.out.cell 5
      have y6 : w10.cell? ⟨w1.heap.size, 6, none⟩ = some (.int .i64 n) := HG10.out.cell 6
      have fy0 := HG10.out.free 0
      have fy1 := HG10.out.free 1
      have fy2 := HG10.out.free 2
      have fy3 := HG10.out.free 3
      have fy4 := HG10.out.free 4
      have fy5 := HG10.out.free 5
      have fy6 := HG10.out.free 6
      have hlty : w1.heap.size < w10.heap.size := HG10.out.lt
      have hney : ¬ w1.heap.size = w10.heap.size := by omega
      go_wp2_with fail
      refine (HTX.out _ (HP.out.below HB10.out)).mono ?_; rintro e w11 ⟨rfl, b11⟩
      have HR11 := Lib.hid (HR10.out.below b11 HR10.out.lt)
      have HG11 := Lib.hid (HG10.out.below b11 HG10.out.lt)
      have HB11 := Lib.hid (bnext HB10.out b11)
      clear b11 HR10 HG10 HB10 y0 fy0 y1 fy1 y2 fy2 y3 fy3 y4 fy4 y5 fy5 y6 fy6 hlty hney
      have q0 : w11.cell? ⟨w.heap.size, 0, none⟩ = some (.int .i64 0) := HR11.out.cell 0
      have q1 : w11.cell? ⟨w.heap.size, 1, none⟩ = some (.int .i64 0) := HR11.out.cell 1
      have q2 : w11.cell? ⟨w.heap.size, 2, none⟩ = some (.int .i64 0) := HR11.out.cell 2
      have q3 : w11.cell? ⟨w.heap.size, 3, none⟩ = some (.int .i64 0) := HR11.out.cell 3
      have q4 : w11.cell? ⟨w.heap.size, 4, none⟩ = some (.int .i64 0) := HR11.out.cell 4
      have q5 : w11.cell? ⟨w.heap.size, 5, none⟩ = some (.int .i64 0) := HR11.out.cell 5
      have q6 : w11.cell? ⟨w.heap.size, 6, none⟩ = some (.int .i64 0) := HR11.out.cell 6
      have fq0 := HR11.out.free 0
      have fq1 := HR11.out.free 1
      have fq2 := HR11.out.free 2
      have fq3 := HR11.out.free 3
      have fq4 := HR11.out.free 4
      have fq5 := HR11.out.free 5
      have fq6 := HR11.out.free 6
      have hltq : w.heap.size < w11.heap.size := HR11.out.lt
      have hneq : ¬ w.heap.size = w11.heap.size := by omega
      have x0 : w11.cell? ⟨w1.heap.size, 0, none⟩ = some (.int .i64 T.a) := HG11.out.cell 0
      have x1 : w11.cell? ⟨w1.heap.size, 1, none⟩ = some (.int .i64 T.b) := HG11.out.cell 1
      have x2 : w11.cell? ⟨w1.heap.size, 2, none⟩ = some (.int .i64 T.c) := HG11.out.cell 2
      have x3 : w11.cell? ⟨w1.heap.size, 3, none⟩ = some (.int .i64 T.d) := HG11.out.cell 3
      have x4 : w11.cell? ⟨w1.heap.size, 4, none⟩ = some (.int .i64 T.e) := HG11.out.cell 4
      have x5 : w11.cell? ⟨w1.heap.size, 5, none⟩ = some (.int .i64 m) := HG11.out.cell 5
      have x6 : w11.cell? ⟨w1.heap.size, 6, none⟩ = some (.int .i64 n) := HG11.out.cell 6
      have fx0 := HG11.out.free 0
      have fx1 := HG11.out.free 1
      have fx2 := HG11.out.free 2
      have fx3 := HG11.out.free 3
      have fx4 := HG11.out.free 4
      have fx5 := HG11.out.free 5
      have fx6 := HG11.out.free 6
      have hltx : w1.heap.size < w11.heap.size := HG11.out.lt
      have hnex : ¬ w1.heap.size = w11.heap.size := by omega
      go_wp2_with fail
      have hb := HB11.out
      exact bodyPost_ret (v := .tuple #[.agg #[.int .i64 T.a, .int .i64 T.b, .int .i64 T.c, .int .i64 T.d, .int .i64 T.e, .int .i64 m, .int .i64 n], .bool true]) (by simp [results, Tryd.results20, go_sem, q0, q1, q2, q3, q4, q5, q6, hltq, hneq, x0, x1, x2, x3, x4, x5, x6, hltx, hnex]) rfl ⟨by rw [e.out.1, e.out.2]; try rfl, by (repeat' (first | (with_reducible exact Below.refl _ _) | (with_reducible assumption) | (with_reducible refine below_dn ?_ _) | (with_reducible refine Below.drew ?_) | (with_reducible refine Below.alloc ?_ ?_ _) | (with_reducible refine Below.setCell ?_ ?_ _) | go_size))⟩
    case neg =>
      have e := Lib.hid (glV_none (HTT.2.2 hqt))
      have HTX := Lib.hid (fun w' (h1 : Pow10 w') => impl_GoalText w' ⟨T, m, n⟩ hq h1)
      have tq := text_ne hqt
      obtain ⟨tx, htx⟩ : ∃ tx, glT ⟨T, m, n⟩ = tx := ⟨_, rfl⟩
      rw [htx] at HTX tq
      rw [hq] at HVG
      clear hqt htx hq HTT HT
      go_wp2_with fail
      generalize (w8.setCell ⟨w1.heap.size, 6, none⟩ (.int .i64 n)) = w9 at *
      clear HR8 HG8 HW8 HB8 y0 fy0 y1 fy1 y2 fy2 y3 fy3 y4 fy4 y5 fy5 y6 fy6 hly HW9
      refine (HVG.out _).mono ?_; rintro e w10 ⟨rfl, b10⟩
      have HR10 := Lib.hid (HR9.out.below b10 HR9.out.lt)
      have HG10 := Lib.hid (HG9.out.below b10 HG9.out.lt)
      have HB10 := Lib.hid (bnext HB9.out b10)
      clear b10 HR9 HG9 HB9
      have y0 : w10.cell? ⟨w1.heap.size, 0, none⟩ = some (.int .i64 T.a) := HG10.out.cell 0
      have y1 : w10.cell? ⟨w1.heap.size, 1, none⟩ = some (.int .i64 T.b) := HG10.out.cell 1
      have y2 : w10.cell? ⟨w1.heap.size, 2, none⟩ = some (.int .i64 T.c) := HG10.out.cell 2
      have y3 : w10.cell? ⟨w1.heap.size, 3, none⟩ = some (.int .i64 T.d) := HG10.out.cell 3
      have y4 : w10.cell? ⟨w1.heap.size, 4, none⟩ = some (.int .i64 T.e) := HG10.out.cell 4
      have y5 : w10.cell? ⟨w1.heap.size, 5, none⟩ = some (.int .i64 m) := HG10.out.cell 5
      have y6 : w10.cell? ⟨w1.heap.size, 6, none⟩ = some (.int .i64 n) := HG10.out.cell 6
      have fy0 := HG10.out.free 0
      have fy1 := HG10.out.free 1
      have fy2 := HG10.out.free 2
      have fy3 := HG10.out.free 3
      have fy4 := HG10.out.free 4
      have fy5 := HG10.out.free 5
      have fy6 := HG10.out.free 6
      have hlty : w1.heap.size < w10.heap.size := HG10.out.lt
      have hney : ¬ w1.heap.size = w10.heap.size := by omega
      go_wp2_with fail
      refine (HTX.out _ (HP.out.below HB10.out)).mono ?_; rintro e w11 ⟨rfl, b11⟩
      have HR11 := Lib.hid (HR10.out.below b11 HR10.out.lt)
      have HG11 := Lib.hid (HG10.out.below b11 HG10.out.lt)
      have HB11 := Lib.hid (bnext HB10.out b11)
      clear b11 HR10 HG10 HB10 y0 fy0 y1 fy1 y2 fy2 y3 fy3 y4 fy4 y5 fy5 y6 fy6 hlty hney
      have q0 : w11.cell? ⟨w.heap.size, 0, none⟩ = some (.int .i64 0) := HR11.out.cell 0
      have q1 : w11.cell? ⟨w.heap.size, 1, none⟩ = some (.int .i64 0) := HR11.out.cell 1
      have q2 : w11.cell? ⟨w.heap.size, 2, none⟩ = some (.int .i64 0) := HR11.out.cell 2
      have q3 : w11.cell? ⟨w.heap.size, 3, none⟩ = some (.int .i64 0) := HR11.out.cell 3
      have q4 : w11.cell? ⟨w.heap.size, 4, none⟩ = some (.int .i64 0) := HR11.out.cell 4
      have q5 : w11.cell? ⟨w.heap.size, 5, none⟩ = some (.int .i64 0) := HR11.out.cell 5
      have q6 : w11.cell? ⟨w.heap.size, 6, none⟩ = some (.int .i64 0) := HR11.out.cell 6
      have fq0 := HR11.out.free 0
      have fq1 := HR11.out.free 1
      have fq2 := HR11.out.free 2
      have fq3 := HR11.out.free 3
      have fq4 := HR11.out.free 4
      have fq5 := HR11.out.free 5
      have fq6 := HR11.out.free 6
      have hltq : w.heap.size < w11.heap.size := HR11.out.lt
      have hneq : ¬ w.heap.size = w11.heap.size := by omega
      go_wp2_with fail
      have hb := HB11.out
      exact bodyPost_ret (v := .tuple #[.agg #[.int .i64 0, .int .i64 0, .int .i64 0, .int .i64 0, .int .i64 0, .int .i64 0, .int .i64 0], .bool false]) (by simp [results, Tryd.results20, go_sem, q0, q1, q2, q3, q4, q5, q6, hltq, hneq]) rfl ⟨by rw [e.out.1, e.out.2]; try rfl, by (repeat' (first | (with_reducible exact Below.refl _ _) | (with_reducible assumption) | (with_reducible refine below_dn ?_ _) | (with_reducible refine Below.drew ?_) | (with_reducible refine Below.alloc ?_ ?_ _) | (with_reducible refine Below.setCell ?_ ?_ _) | go_size))⟩
end Go.Proofs.YtklgkbiobggbiaaDoor
