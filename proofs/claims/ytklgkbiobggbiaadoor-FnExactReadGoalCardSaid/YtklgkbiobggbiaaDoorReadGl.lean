/- ReadGoal: the reference. -/
import Derived.Test.YtklgkbiobggbiaaDoorRows
import Derived.Test.YtklgkbiobggbiaaDoorReadSo
import Derived.Deep.RegionHeld3
namespace Go.Proofs.YtklgkbiobggbiaaDoor
open Go.ChangeShapes Go.WideShapes Go.ChangeAt Go.RowKit Go.Deep Go.Joins
set_option linter.unusedVariables false
set_option maxRecDepth 100000
set_option linter.unusedSimpArgs false
theorem spec_l04ListC (w : World) (g : Nat) (a b c d e : Int) (c0 : w.cell? ⟨g, 0, none⟩ = some (.int .i64 a)) (c1 : w.cell? ⟨g, 1, none⟩ = some (.int .i64 b)) (c2 : w.cell? ⟨g, 2, none⟩ = some (.int .i64 c)) (c3 : w.cell? ⟨g, 3, none⟩ = some (.int .i64 d)) (c4 : w.cell? ⟨g, 4, none⟩ = some (.int .i64 e)) (hl : g < w.heap.size) :
    Calls Tryd.prog 117 #[.pointer (some ⟨g, 0, none⟩)] w fun r w' => r = .returned (.slice (some ⟨w.heap.size, 0, none⟩) 5 5) ∧ Own w' w.heap.size 2 (L5 a b c d e) ∧ Below w.heap.size w w' := by
  go_enter Tryd.func117, Tryd.ntmps117
  go_wp2_with fail
  go_region
  go_wp2_with fail
  go_ret
  exact ⟨rfl, by first | exact Own.drew1 (Own.new w _ (L5 a b c d e)) | exact Own.new w _ (L5 a b c d e) | exact Own.new w.drew _ (L5 a b c d e), by (repeat' (first | (with_reducible exact Below.refl _ _) | (with_reducible assumption) | (with_reducible refine below_dn ?_ _) | (with_reducible refine Below.drew ?_) | (with_reducible refine Below.alloc ?_ ?_ _) | (with_reducible refine Below.setCell ?_ ?_ _) | go_size))⟩
theorem spec_l04OkC (w : World) (g : Nat) (a b c d e : Int) (c0 : w.cell? ⟨g, 0, none⟩ = some (.int .i64 a)) (c1 : w.cell? ⟨g, 1, none⟩ = some (.int .i64 b)) (c2 : w.cell? ⟨g, 2, none⟩ = some (.int .i64 c)) (c3 : w.cell? ⟨g, 3, none⟩ = some (.int .i64 d)) (c4 : w.cell? ⟨g, 4, none⟩ = some (.int .i64 e)) (hl : g < w.heap.size) (hz : ∀ z ∈ [a, b, c, d, e], 10000 ≤ z ∧ z ≤ 20000000) :
    Calls Tryd.prog 85 #[.pointer (some ⟨g, 0, none⟩)] w fun r w' => r = .returned (.bool (rise5 a b c d e)) ∧ Below w.heap.size w w' := by
  have H := Lib.hid (spec_l04ListC w g a b c d e c0 c1 c2 c3 c4 hl)
  have HR := Lib.hid (fun (w' : World) (o : Own w' w.heap.size 2 (L5 a b c d e)) => by
    have q := spec_l00Rises w' _ [a, b, c, d, e] (rd5 o) (by simp) hz
    rw [show [a, b, c, d, e].length = 5 from rfl, rise5_eq] at q
    exact q)
  clear hz c0 c1 c2 c3 c4
  generalize rise5 a b c d e = R at *
  go_enter Tryd.func85, Tryd.ntmps85
  go_wp2_with fail
  refine H.out.mono ?_; rintro r1 w1 ⟨rfl, o1, b1⟩
  have HB1 := Lib.hid b1
  have HO1 := Lib.hid o1
  clear b1 o1
  go_wp2_with fail
  refine (HR.out _ HO1.out).mono ?_; rintro r2 w2 ⟨rfl, b2⟩
  have HB2 := Lib.hid (bnext HB1.out b2); clear b2
  go_wp2_with fail
  go_ret
  exact ⟨rfl, HB2.out⟩
set_option maxHeartbeats 2000000 in
theorem spec_l10Goal {b : Bool} (w : World) (g : Nat) (x : Gl) (hv : Own w g 45 [.int .i64 x.t.a, .int .i64 x.t.b, .int .i64 x.t.c, .int .i64 x.t.d, .int .i64 x.t.e, .int .i64 x.tol, .int .i64 x.most]) (hs : sndB x.t = true) (hb : (inB x.tol 0 20000 && inB x.most 0 20) = b) :
    Calls Tryd.prog 51 #[.pointer (some ⟨g, 0, none⟩)] w fun r w' => r = .returned (.bool b) ∧ Below w.heap.size w w' := by
  obtain ⟨xt, tol, most⟩ := x
  have HK := Lib.hid (spec_l04OkC w g xt.a xt.b xt.c xt.d xt.e (hv.cell 0) (hv.cell 1) (hv.cell 2) (hv.cell 3) (hv.cell 4) hv.lt (sndB_bd hs))
  have hr : rise5 xt.a xt.b xt.c xt.d xt.e = true := by unfold sndB at hs; rw [Bool.and_eq_true] at hs; exact hs.2
  rw [hr] at HK
  have HV := Lib.hid hv
  clear hv hs hr
  cases h1 : inB tol 0 20000 with
  | false =>
    have e : Hid (b = false) := Lib.hid (by rw [← hb, h1]; rfl)
    clear hb
    go_enter Tryd.func51, Tryd.ntmps51
    go_wp2_with fail
    refine HK.out.mono ?_; rintro r1 w1 ⟨rfl, b1⟩
    have HV1 := Lib.hid (HV.out.below b1 HV.out.lt)
    have v5 : w1.cell? ⟨g, 5, none⟩ = some (.int .i64 tol) := HV1.out.cell 5
    have v6 : w1.cell? ⟨g, 6, none⟩ = some (.int .i64 most) := HV1.out.cell 6
    have vl := HV1.out.lt
    have HB1 := Lib.hid b1; clear b1 HV
    go_wp2_with (go_at_call 87; refine (l00In_is _ _ _ _ h1).mono ?_; rintro e w' ⟨rfl, rfl⟩)
    go_ret
    exact ⟨by rw [e.out]; try rfl, HB1.out⟩
  | true =>
    have h2 : inB most 0 20 = b := by rw [← hb, h1]; rfl
    clear hb
    go_enter Tryd.func51, Tryd.ntmps51
    go_wp2_with fail
    refine HK.out.mono ?_; rintro r1 w1 ⟨rfl, b1⟩
    have HV1 := Lib.hid (HV.out.below b1 HV.out.lt)
    have v5 : w1.cell? ⟨g, 5, none⟩ = some (.int .i64 tol) := HV1.out.cell 5
    have v6 : w1.cell? ⟨g, 6, none⟩ = some (.int .i64 most) := HV1.out.cell 6
    have vl := HV1.out.lt
    have HB1 := Lib.hid b1; clear b1 HV
    go_wp2_with (first | (go_at_call_of 87 tol; refine (l00In_is _ _ _ _ h1).mono ?_; rintro e w' ⟨rfl, rfl⟩) | (go_at_call_of 87 most; refine (l00In_is _ _ _ _ h2).mono ?_; rintro e w' ⟨rfl, rfl⟩))
    go_ret
    exact ⟨rfl, HB1.out⟩
set_option maxHeartbeats 16000000 in
theorem spec_ReadGoal (s : ByteArray) (w : World) (hs : s.size ≤ 1048576) :
    Calls Tryd.prog 19 #[.string s] w fun e w' => e = .returned (.tuple #[.agg #[.int .i64 (glV s).t.a, .int .i64 (glV s).t.b, .int .i64 (glV s).t.c, .int .i64 (glV s).t.d, .int .i64 (glV s).t.e, .int .i64 (glV s).tol, .int .i64 (glV s).most], .bool (glR s).isSome]) ∧ Below w.heap.size w w' := by
  have HR0 : Hid (Own (w.alloc (.cells #[.int .i64 0, .int .i64 0, .int .i64 0, .int .i64 0, .int .i64 0, .int .i64 0, .int .i64 0] 45)) w.heap.size 45 [.int .i64 0, .int .i64 0, .int .i64 0, .int .i64 0, .int .i64 0, .int .i64 0, .int .i64 0]) := Lib.hid (Own.new w _ _)
  have HB0 : Hid (Below w.heap.size w (w.alloc (.cells #[.int .i64 0, .int .i64 0, .int .i64 0, .int .i64 0, .int .i64 0, .int .i64 0, .int .i64 0] 45))) := Lib.hid ((Below.refl _ _).alloc (Nat.le_refl _) _)
  have H32 := Lib.hid (fun w' => spec_l01Split 32 s w' hs)
  have hwz := Lib.hid (fun x (hx : x ∈ partsS 32 s) => partsS_size x hx)
  by_cases h7 : (partsS 32 s).length = 7
  case neg =>
    have e := Lib.hid (glV_none (glR_not7 h7))
    have t2 : (((partsS 32 s).length : Int) != 7) = true := bne_iff_ne.2 (by omega)
    clear h7
    generalize partsS 32 s = ws at *
    go_enter Tryd.func19, Tryd.ntmps19
    go_wp2_with fail
    refine (H32.out _).mono ?_; rintro e w1 ⟨rv, rfl, o1, b1⟩
    obtain ⟨ro, rx, rfl⟩ := (own_rd o1).form
    have HR1 := Lib.hid (HR0.out.below b1 HR0.out.lt)
    have HB1 := Lib.hid (bnext HB0.out b1)
    clear o1 b1 HR0 HB0
    have q0 : w1.cell? ⟨w.heap.size, 0, none⟩ = some (.int .i64 0) := HR1.out.cell 0
    have q1 : w1.cell? ⟨w.heap.size, 1, none⟩ = some (.int .i64 0) := HR1.out.cell 1
    have q2 : w1.cell? ⟨w.heap.size, 2, none⟩ = some (.int .i64 0) := HR1.out.cell 2
    have q3 : w1.cell? ⟨w.heap.size, 3, none⟩ = some (.int .i64 0) := HR1.out.cell 3
    have q4 : w1.cell? ⟨w.heap.size, 4, none⟩ = some (.int .i64 0) := HR1.out.cell 4
    have q5 : w1.cell? ⟨w.heap.size, 5, none⟩ = some (.int .i64 0) := HR1.out.cell 5
    have q6 : w1.cell? ⟨w.heap.size, 6, none⟩ = some (.int .i64 0) := HR1.out.cell 6
    have fq0 := HR1.out.free 0
    have fq1 := HR1.out.free 1
    have fq2 := HR1.out.free 2
    have fq3 := HR1.out.free 3
    have fq4 := HR1.out.free 4
    have fq5 := HR1.out.free 5
    have fq6 := HR1.out.free 6
    have hltq : w.heap.size < w1.heap.size := HR1.out.lt
    have hneq : ¬ w.heap.size = w1.heap.size := by omega
    go_wp2_with fail
    have hb := HB1.out
    exact bodyPost_ret (v := .tuple #[.agg #[.int .i64 0, .int .i64 0, .int .i64 0, .int .i64 0, .int .i64 0, .int .i64 0, .int .i64 0], .bool false]) (by simp [results, Tryd.results19, go_sem, q0, q1, q2, q3, q4, q5, q6, hltq, hneq]) rfl ⟨by rw [e.out.1, e.out.2]; try rfl, by (repeat' (first | (with_reducible exact Below.refl _ _) | (with_reducible assumption) | (with_reducible refine below_dn ?_ _) | (with_reducible refine Below.drew ?_) | (with_reducible refine Below.alloc ?_ ?_ _) | (with_reducible refine Below.setCell ?_ ?_ _) | go_size))⟩
  obtain ⟨a, b, c, d, z, u, v, hab⟩ := seven_of h7
  have hz : ∀ x ∈ [a, b, c, d, z, u, v], x.size ≤ 1048576 := fun x hx => Nat.le_trans (hwz.out x (by rw [hab]; exact hx)) hs
  have za := hz a (by simp)
  have zb := hz b (by simp)
  have zc := hz c (by simp)
  have zd := hz d (by simp)
  have zz := hz z (by simp)
  have zu := hz u (by simp)
  have zv := hz v (by simp)
  have hj := join_size5 hab
  have ej := joinT_five 32 a b c d z
  have HSO := Lib.hid (fun w' (x : ByteArray) (hx : x = joinT 32 [a, b, c, d, z]) => (by subst hx; exact spec_l04Read (joinT 32 [a, b, c, d, z]) w' (Nat.le_trans hj hs) : Calls Tryd.prog 49 #[.string x] w' fun e w'' => e = .returned (.tuple #[.agg #[.int .i64 (sndV (joinT 32 [a, b, c, d, z])).a, .int .i64 (sndV (joinT 32 [a, b, c, d, z])).b, .int .i64 (sndV (joinT 32 [a, b, c, d, z])).c, .int .i64 (sndV (joinT 32 [a, b, c, d, z])).d, .int .i64 (sndV (joinT 32 [a, b, c, d, z])).e], .bool (sndR (joinT 32 [a, b, c, d, z])).isSome]) ∧ Below w'.heap.size w' w''))
  have HN5 := Lib.hid (fun w' => spec_l01Number u w' (by omega))
  have HN6 := Lib.hid (fun w' => spec_l01Number v w' (by omega))
  have h1 : Hid ((sndR (joinT 32 [a, b, c, d, z])).isSome = false → glV s = glZ ∧ (glR s).isSome = false) := Lib.hid (fun q => glV_none (by rw [glR_seven hab]; cases h : sndR (joinT 32 [a, b, c, d, z]) with | none => exact glMk_t _ _ | some _ => rw [h] at q; cases q))
  have h2 : Hid ((numS u).isSome = false → glV s = glZ ∧ (glR s).isSome = false) := Lib.hid (fun q => glV_none (by rw [glR_seven hab]; cases h : numS u with | none => exact glMk_a _ _ | some _ => rw [h] at q; cases q))
  have h3 : Hid ((numS v).isSome = false → glV s = glZ ∧ (glR s).isSome = false) := Lib.hid (fun q => glV_none (by rw [glR_seven hab]; cases h : numS v with | none => exact glMk_b _ _ | some _ => rw [h] at q; cases q))
  have h4 : Hid ((sndR (joinT 32 [a, b, c, d, z])).isSome = true → (numS u).isSome = true → (numS v).isSome = true → sndB (sndV (joinT 32 [a, b, c, d, z])) = true ∧ glR s = if (inB (numV u) 0 20000 && inB (numV v) 0 20) = true then some ⟨sndV (joinT 32 [a, b, c, d, z]), numV u, numV v⟩ else none) := Lib.hid (fun q1 q2 q3 => by
    refine ⟨by rw [sndV_ok]; exact q1, ?_⟩
    rw [glR_seven hab]
    obtain ⟨t, ht⟩ := Option.isSome_iff_exists.1 q1
    obtain ⟨m, hm⟩ := Option.isSome_iff_exists.1 q2
    obtain ⟨n, hn⟩ := Option.isSome_iff_exists.1 q3
    rw [(sndV_some ht).1, (num_some hm).1, (num_some hn).1, ht, hm, hn, glMk_ok])
  generalize sndV (joinT 32 [a, b, c, d, z]) = T at *
  generalize (sndR (joinT 32 [a, b, c, d, z])).isSome = one at *
  rw [ej] at HSO
  clear ej hj
  generalize numV u = m at *
  generalize (numS u).isSome = two at *
  generalize numV v = n at *
  generalize (numS v).isSome = three at *
  rw [hab] at H32
  have H32' : Hid (∀ w' : World, Calls Tryd.prog 48 #[.string s, .int .u8 (32 : UInt8).toNat] w' fun e w'' => ∃ r, e = .returned r ∧ w''.ownsRow w'.heap.size 9 1 r 7 ([a, b, c, d, z, u, v].flatMap putStr) ∧ Below w'.heap.size w' w'') := H32
  clear h7 hwz hz H32 hab
  have k0a : ¬ (9223372036854775807 < a.size + 1) := by omega
  have k0b : ¬ (9223372036854775807 ≤ a.size) := by omega
  have k0c : ¬ (9223372036854775807 < a.size + 1 + b.size) := by omega
  have k1a : ¬ (9223372036854775807 < a.size + 1 + b.size + 1) := by omega
  have k1b : ¬ (9223372036854775807 ≤ a.size + 1 + b.size) := by omega
  have k1c : ¬ (9223372036854775807 < a.size + 1 + b.size + 1 + c.size) := by omega
  have k2a : ¬ (9223372036854775807 < a.size + 1 + b.size + 1 + c.size + 1) := by omega
  have k2b : ¬ (9223372036854775807 ≤ a.size + 1 + b.size + 1 + c.size) := by omega
  have k2c : ¬ (9223372036854775807 < a.size + 1 + b.size + 1 + c.size + 1 + d.size) := by omega
  have k3a : ¬ (9223372036854775807 < a.size + 1 + b.size + 1 + c.size + 1 + d.size + 1) := by omega
  have k3b : ¬ (9223372036854775807 ≤ a.size + 1 + b.size + 1 + c.size + 1 + d.size) := by omega
  have k3c : ¬ (9223372036854775807 < a.size + 1 + b.size + 1 + c.size + 1 + d.size + 1 + z.size) := by omega
  go_enter Tryd.func19, Tryd.ntmps19
  go_wp2_with fail
  refine (H32'.out _).mono ?_; rintro e w1 ⟨rv, rfl, o1, b1⟩
  obtain ⟨gx, cx, U, rfl, hgx0, ow⟩ := str_own o1 (by decide)
  have HW1 := Lib.hid ow
  have d0 : w1.cell? ⟨gx, 0, none⟩ = some (.string a) := ow.cell 0
  have d1 : w1.cell? ⟨gx, 1, none⟩ = some (.string b) := ow.cell 1
  have d2 : w1.cell? ⟨gx, 2, none⟩ = some (.string c) := ow.cell 2
  have d3 : w1.cell? ⟨gx, 3, none⟩ = some (.string d) := ow.cell 3
  have d4 : w1.cell? ⟨gx, 4, none⟩ = some (.string z) := ow.cell 4
  have hgx : gx < w1.heap.size := ow.lt
  have hgw : w.heap.size < gx := by have q := hgx0; simp at q; omega
  have HR1 := Lib.hid (HR0.out.below b1 HR0.out.lt)
  have HB1 := Lib.hid (bnext HB0.out b1)
  clear o1 b1 HR0 HB0 ow hgx0
  go_wp2_with fail
  have hne1 : ¬ gx = w1.heap.size := by omega
  have hne2 : ¬ w1.heap.size = gx := by omega
  go_region_held3 (fun w' => w'.cell? ⟨gx, 0, none⟩ = some (.string a) ∧ w'.cell? ⟨gx, 1, none⟩ = some (.string b) ∧ w'.cell? ⟨gx, 2, none⟩ = some (.string c) ∧ w'.cell? ⟨gx, 3, none⟩ = some (.string d) ∧ w'.cell? ⟨gx, 4, none⟩ = some (.string z)) (first | go_keep | (simp [go_sem, hne1, hne2, hg3, Nat.ne_of_lt hg3, HS3.1, HS3.2.1, HS3.2.2.1, HS3.2.2.2.1, HS3.2.2.2.2]; done)) (first
      | (go_at_call 49
         refine (HSO.out _ _ (by apply bytes_inj; simp)).mono ?_; rintro e w3 ⟨rfl, b3⟩
         have B3 : Below w1.heap.size w1 w3 := Below.trans (by (repeat' (first | (with_reducible exact Below.refl _ _) | (with_reducible assumption) | (with_reducible refine below_dn ?_ _) | (with_reducible refine Below.drew ?_) | (with_reducible refine Below.alloc ?_ ?_ _) | (with_reducible refine Below.setCell ?_ ?_ _) | go_size))) (b3.mono (by simp <;> omega))
         have HS3 : w3.cell? ⟨gx, 0, none⟩ = some (.string a) ∧ w3.cell? ⟨gx, 1, none⟩ = some (.string b) ∧ w3.cell? ⟨gx, 2, none⟩ = some (.string c) ∧ w3.cell? ⟨gx, 3, none⟩ = some (.string d) ∧ w3.cell? ⟨gx, 4, none⟩ = some (.string z) := ⟨(B3.cell (p := ⟨gx, 0, none⟩) hgx).trans d0, (B3.cell (p := ⟨gx, 1, none⟩) hgx).trans d1, (B3.cell (p := ⟨gx, 2, none⟩) hgx).trans d2, (B3.cell (p := ⟨gx, 3, none⟩) hgx).trans d3, (B3.cell (p := ⟨gx, 4, none⟩) hgx).trans d4⟩
         have hg3 : gx < w3.heap.size := Nat.lt_of_lt_of_le hgx B3.size
         have HB3 := Lib.hid B3
         first
           | (have b3' : Below (w1.alloc (.cells #[.int .i64 0, .int .i64 0, .int .i64 0, .int .i64 0, .int .i64 0] 43)).drew.heap.size (w1.alloc (.cells #[.int .i64 0, .int .i64 0, .int .i64 0, .int .i64 0, .int .i64 0] 43)).drew w3 := b3
              have ON : Own (w1.alloc (.cells #[.int .i64 0, .int .i64 0, .int .i64 0, .int .i64 0, .int .i64 0] 43)).drew w1.heap.size 43 [.int .i64 0, .int .i64 0, .int .i64 0, .int .i64 0, .int .i64 0] := Own.new w1 _ _
              have OX : Hid (Own w3 w1.heap.size 43 [.int .i64 0, .int .i64 0, .int .i64 0, .int .i64 0, .int .i64 0]) := Lib.hid (ON.below b3' ON.lt)
              have x0 : w3.cell? ⟨w1.heap.size, 0, none⟩ = some (.int .i64 0) := OX.out.cell 0
              have x1 : w3.cell? ⟨w1.heap.size, 1, none⟩ = some (.int .i64 0) := OX.out.cell 1
              have x2 : w3.cell? ⟨w1.heap.size, 2, none⟩ = some (.int .i64 0) := OX.out.cell 2
              have x3 : w3.cell? ⟨w1.heap.size, 3, none⟩ = some (.int .i64 0) := OX.out.cell 3
              have x4 : w3.cell? ⟨w1.heap.size, 4, none⟩ = some (.int .i64 0) := OX.out.cell 4
              have fx0 := OX.out.free 0
              have fx1 := OX.out.free 1
              have fx2 := OX.out.free 2
              have fx3 := OX.out.free 3
              have fx4 := OX.out.free 4
              have hltx := OX.out.lt
              have hnex : ¬ w1.heap.size = w3.heap.size := Nat.ne_of_lt OX.out.lt
              clear b3 B3 b3' ON)
           | clear b3 B3))
  · have F1 : Hid (Own (w3.alloc (.cells #[.int .i64 T.a, .int .i64 T.b, .int .i64 T.c, .int .i64 T.d, .int .i64 T.e] 43)) w3.heap.size 43 [.int .i64 T.a, .int .i64 T.b, .int .i64 T.c, .int .i64 T.d, .int .i64 T.e]) := Lib.hid (Own.new w3 _ _)
    have F2 : Hid (Own (w3.alloc (.cells #[.int .i64 T.a, .int .i64 T.b, .int .i64 T.c, .int .i64 T.d, .int .i64 T.e] 43)) gx 9 ([a, b, c, d, z, u, v].flatMap putStr ++ U)) := Lib.hid ((HW1.out.below HB3.out HW1.out.lt).alloc _)
    have F3 : Hid (Own (w3.alloc (.cells #[.int .i64 T.a, .int .i64 T.b, .int .i64 T.c, .int .i64 T.d, .int .i64 T.e] 43)) w.heap.size 45 [.int .i64 0, .int .i64 0, .int .i64 0, .int .i64 0, .int .i64 0, .int .i64 0, .int .i64 0]) := Lib.hid ((HR1.out.below HB3.out HR1.out.lt).alloc _)
    have F4 : Hid (Below w.heap.size w (w3.alloc (.cells #[.int .i64 T.a, .int .i64 T.b, .int .i64 T.c, .int .i64 T.d, .int .i64 T.e] 43))) := Lib.hid ((bnext HB1.out HB3.out).alloc (bnext HB1.out HB3.out).size _)
    have hgy : w.heap.size < w3.heap.size := by have := HB1.out.size; have := HR1.out.lt; have := HB3.out.size; omega
    clear HS3 HB3 HW1 HR1 HB1 d0 d1 d2 d3 d4 hne1 hne2 hg3
    generalize (w3.alloc (.cells #[.int .i64 T.a, .int .i64 T.b, .int .i64 T.c, .int .i64 T.d, .int .i64 T.e] 43)) = w4 at *
    generalize w3.heap.size = gX at *
    generalize (a ++ (⟨#[32]⟩ : ByteArray)) = P1
    generalize (P1 ++ b) = P2
    generalize (P2 ++ (⟨#[32]⟩ : ByteArray)) = P3
    generalize (P3 ++ c) = P4
    generalize (P4 ++ (⟨#[32]⟩ : ByteArray)) = P5
    generalize (P5 ++ d) = P6
    generalize (P6 ++ (⟨#[32]⟩ : ByteArray)) = P7
    generalize (P7 ++ z) = P8
    clear k0a k0b k0c k1a k1b k1c k2a k2b k2c k3a k3b k3c za zb zc zd zz zu zv HSO
    have hgl : w.heap.size < gX := by omega
    have hgl2 : gx < w4.heap.size := F2.out.lt
    have d5 : w4.cell? ⟨gx, 5, none⟩ = some (.string u) := F2.out.cell 5
    have d6 : w4.cell? ⟨gx, 6, none⟩ = some (.string v) := F2.out.cell 6
    have t0 : w4.cell? ⟨gX, 0, none⟩ = some (.int .i64 T.a) := F1.out.cell 0
    have t1 : w4.cell? ⟨gX, 1, none⟩ = some (.int .i64 T.b) := F1.out.cell 1
    have t2 : w4.cell? ⟨gX, 2, none⟩ = some (.int .i64 T.c) := F1.out.cell 2
    have t3 : w4.cell? ⟨gX, 3, none⟩ = some (.int .i64 T.d) := F1.out.cell 3
    have t4 : w4.cell? ⟨gX, 4, none⟩ = some (.int .i64 T.e) := F1.out.cell 4
    have ft0 := F1.out.free 0
    have ft1 := F1.out.free 1
    have ft2 := F1.out.free 2
    have ft3 := F1.out.free 3
    have ft4 := F1.out.free 4
    have hltt : gX < w4.heap.size := F1.out.lt
    have hnet : ¬ gX = w4.heap.size := by omega
    go_wp2_with fail
    refine (HN5.out _).mono ?_; rintro e w5 ⟨rfl, rfl⟩
    go_wp2_with fail
    refine (HN6.out _).mono ?_; rintro e w6 ⟨rfl, rfl⟩
    cases one with
    | false =>
      have e := Lib.hid (h1.out rfl)
      clear h1 h2 h3 h4
      have R5 : Hid (Own (w4.alloc (.cells #[.int .i64 T.a, .int .i64 T.b, .int .i64 T.c, .int .i64 T.d, .int .i64 T.e, .int .i64 m, .int .i64 n] 45)) w.heap.size 45 [.int .i64 0, .int .i64 0, .int .i64 0, .int .i64 0, .int .i64 0, .int .i64 0, .int .i64 0]) := Lib.hid (F3.out.alloc _)
      have q0 : (w4.alloc (.cells #[.int .i64 T.a, .int .i64 T.b, .int .i64 T.c, .int .i64 T.d, .int .i64 T.e, .int .i64 m, .int .i64 n] 45)).cell? ⟨w.heap.size, 0, none⟩ = some (.int .i64 0) := R5.out.cell 0
      have q1 : (w4.alloc (.cells #[.int .i64 T.a, .int .i64 T.b, .int .i64 T.c, .int .i64 T.d, .int .i64 T.e, .int .i64 m, .int .i64 n] 45)).cell? ⟨w.heap.size, 1, none⟩ = some (.int .i64 0) := R5.out.cell 1
      have q2 : (w4.alloc (.cells #[.int .i64 T.a, .int .i64 T.b, .int .i64 T.c, .int .i64 T.d, .int .i64 T.e, .int .i64 m, .int .i64 n] 45)).cell? ⟨w.heap.size, 2, none⟩ = some (.int .i64 0) := R5.out.cell 2
      have q3 : (w4.alloc (.cells #[.int .i64 T.a, .int .i64 T.b, .int .i64 T.c, .int .i64 T.d, .int .i64 T.e, .int .i64 m, .int .i64 n] 45)).cell? ⟨w.heap.size, 3, none⟩ = some (.int .i64 0) := R5.out.cell 3
      have q4 : (w4.alloc (.cells #[.int .i64 T.a, .int .i64 T.b, .int .i64 T.c, .int .i64 T.d, .int .i64 T.e, .int .i64 m, .int .i64 n] 45)).cell? ⟨w.heap.size, 4, none⟩ = some (.int .i64 0) := R5.out.cell 4
      have q5 : (w4.alloc (.cells #[.int .i64 T.a, .int .i64 T.b, .int .i64 T.c, .int .i64 T.d, .int .i64 T.e, .int .i64 m, .int .i64 n] 45)).cell? ⟨w.heap.size, 5, none⟩ = some (.int .i64 0) := R5.out.cell 5
      have q6 : (w4.alloc (.cells #[.int .i64 T.a, .int .i64 T.b, .int .i64 T.c, .int .i64 T.d, .int .i64 T.e, .int .i64 m, .int .i64 n] 45)).cell? ⟨w.heap.size, 6, none⟩ = some (.int .i64 0) := R5.out.cell 6
      have fq0 := R5.out.free 0
      have fq1 := R5.out.free 1
      have fq2 := R5.out.free 2
      have fq3 := R5.out.free 3
      have fq4 := R5.out.free 4
      have fq5 := R5.out.free 5
      have fq6 := R5.out.free 6
      have hltq : w.heap.size < (w4.alloc (.cells #[.int .i64 T.a, .int .i64 T.b, .int .i64 T.c, .int .i64 T.d, .int .i64 T.e, .int .i64 m, .int .i64 n] 45)).heap.size := R5.out.lt
      have hneq : ¬ w.heap.size = (w4.alloc (.cells #[.int .i64 T.a, .int .i64 T.b, .int .i64 T.c, .int .i64 T.d, .int .i64 T.e, .int .i64 m, .int .i64 n] 45)).heap.size := Nat.ne_of_lt hltq
      have HB4 : Hid (Below w.heap.size w (w4.alloc (.cells #[.int .i64 T.a, .int .i64 T.b, .int .i64 T.c, .int .i64 T.d, .int .i64 T.e, .int .i64 m, .int .i64 n] 45))) := Lib.hid (F4.out.alloc F4.out.size _)
      clear F1 F2 F3 F4 R5
      go_wp2_with fail
      have hb := HB4.out
      exact bodyPost_ret (v := .tuple #[.agg #[.int .i64 0, .int .i64 0, .int .i64 0, .int .i64 0, .int .i64 0, .int .i64 0, .int .i64 0], .bool false]) (by simp [results, Tryd.results19, go_sem, q0, q1, q2, q3, q4, q5, q6, hltq, hneq]) rfl ⟨by rw [e.out.1, e.out.2]; try rfl, by (repeat' (first | (with_reducible exact Below.refl _ _) | (with_reducible assumption) | (with_reducible refine below_dn ?_ _) | (with_reducible refine Below.drew ?_) | (with_reducible refine Below.alloc ?_ ?_ _) | (with_reducible refine Below.setCell ?_ ?_ _) | go_size))⟩
    | true =>
      cases two with
      | false =>
        have e := Lib.hid (h2.out rfl)
        clear h1 h2 h3 h4
        have R5 : Hid (Own (w4.alloc (.cells #[.int .i64 T.a, .int .i64 T.b, .int .i64 T.c, .int .i64 T.d, .int .i64 T.e, .int .i64 m, .int .i64 n] 45)) w.heap.size 45 [.int .i64 0, .int .i64 0, .int .i64 0, .int .i64 0, .int .i64 0, .int .i64 0, .int .i64 0]) := Lib.hid (F3.out.alloc _)
        have q0 : (w4.alloc (.cells #[.int .i64 T.a, .int .i64 T.b, .int .i64 T.c, .int .i64 T.d, .int .i64 T.e, .int .i64 m, .int .i64 n] 45)).cell? ⟨w.heap.size, 0, none⟩ = some (.int .i64 0) := R5.out.cell 0
        have q1 : (w4.alloc (.cells #[.int .i64 T.a, .int .i64 T.b, .int .i64 T.c, .int .i64 T.d, .int .i64 T.e, .int .i64 m, .int .i64 n] 45)).cell? ⟨w.heap.size, 1, none⟩ = some (.int .i64 0) := R5.out.cell 1
        have q2 : (w4.alloc (.cells #[.int .i64 T.a, .int .i64 T.b, .int .i64 T.c, .int .i64 T.d, .int .i64 T.e, .int .i64 m, .int .i64 n] 45)).cell? ⟨w.heap.size, 2, none⟩ = some (.int .i64 0) := R5.out.cell 2
        have q3 : (w4.alloc (.cells #[.int .i64 T.a, .int .i64 T.b, .int .i64 T.c, .int .i64 T.d, .int .i64 T.e, .int .i64 m, .int .i64 n] 45)).cell? ⟨w.heap.size, 3, none⟩ = some (.int .i64 0) := R5.out.cell 3
        have q4 : (w4.alloc (.cells #[.int .i64 T.a, .int .i64 T.b, .int .i64 T.c, .int .i64 T.d, .int .i64 T.e, .int .i64 m, .int .i64 n] 45)).cell? ⟨w.heap.size, 4, none⟩ = some (.int .i64 0) := R5.out.cell 4
        have q5 : (w4.alloc (.cells #[.int .i64 T.a, .int .i64 T.b, .int .i64 T.c, .int .i64 T.d, .int .i64 T.e, .int .i64 m, .int .i64 n] 45)).cell? ⟨w.heap.size, 5, none⟩ = some (.int .i64 0) := R5.out.cell 5
        have q6 : (w4.alloc (.cells #[.int .i64 T.a, .int .i64 T.b, .int .i64 T.c, .int .i64 T.d, .int .i64 T.e, .int .i64 m, .int .i64 n] 45)).cell? ⟨w.heap.size, 6, none⟩ = some (.int .i64 0) := R5.out.cell 6
        have fq0 := R5.out.free 0
        have fq1 := R5.out.free 1
        have fq2 := R5.out.free 2
        have fq3 := R5.out.free 3
        have fq4 := R5.out.free 4
        have fq5 := R5.out.free 5
        have fq6 := R5.out.free 6
        have hltq : w.heap.size < (w4.alloc (.cells #[.int .i64 T.a, .int .i64 T.b, .int .i64 T.c, .int .i64 T.d, .int .i64 T.e, .int .i64 m, .int .i64 n] 45)).heap.size := R5.out.lt
        have hneq : ¬ w.heap.size = (w4.alloc (.cells #[.int .i64 T.a, .int .i64 T.b, .int .i64 T.c, .int .i64 T.d, .int .i64 T.e, .int .i64 m, .int .i64 n] 45)).heap.size := Nat.ne_of_lt hltq
        have HB4 : Hid (Below w.heap.size w (w4.alloc (.cells #[.int .i64 T.a, .int .i64 T.b, .int .i64 T.c, .int .i64 T.d, .int .i64 T.e, .int .i64 m, .int .i64 n] 45))) := Lib.hid (F4.out.alloc F4.out.size _)
        clear F1 F2 F3 F4 R5
        go_wp2_with fail
        have hb := HB4.out
        exact bodyPost_ret (v := .tuple #[.agg #[.int .i64 0, .int .i64 0, .int .i64 0, .int .i64 0, .int .i64 0, .int .i64 0, .int .i64 0], .bool false]) (by simp [results, Tryd.results19, go_sem, q0, q1, q2, q3, q4, q5, q6, hltq, hneq]) rfl ⟨by rw [e.out.1, e.out.2]; try rfl, by (repeat' (first | (with_reducible exact Below.refl _ _) | (with_reducible assumption) | (with_reducible refine below_dn ?_ _) | (with_reducible refine Below.drew ?_) | (with_reducible refine Below.alloc ?_ ?_ _) | (with_reducible refine Below.setCell ?_ ?_ _) | go_size))⟩
      | true =>
        cases three with
        | false =>
          have e := Lib.hid (h3.out rfl)
          clear h1 h2 h3 h4
          have R5 : Hid (Own (w4.alloc (.cells #[.int .i64 T.a, .int .i64 T.b, .int .i64 T.c, .int .i64 T.d, .int .i64 T.e, .int .i64 m, .int .i64 n] 45)) w.heap.size 45 [.int .i64 0, .int .i64 0, .int .i64 0, .int .i64 0, .int .i64 0, .int .i64 0, .int .i64 0]) := Lib.hid (F3.out.alloc _)
          have q0 : (w4.alloc (.cells #[.int .i64 T.a, .int .i64 T.b, .int .i64 T.c, .int .i64 T.d, .int .i64 T.e, .int .i64 m, .int .i64 n] 45)).cell? ⟨w.heap.size, 0, none⟩ = some (.int .i64 0) := R5.out.cell 0
          have q1 : (w4.alloc (.cells #[.int .i64 T.a, .int .i64 T.b, .int .i64 T.c, .int .i64 T.d, .int .i64 T.e, .int .i64 m, .int .i64 n] 45)).cell? ⟨w.heap.size, 1, none⟩ = some (.int .i64 0) := R5.out.cell 1
          have q2 : (w4.alloc (.cells #[.int .i64 T.a, .int .i64 T.b, .int .i64 T.c, .int .i64 T.d, .int .i64 T.e, .int .i64 m, .int .i64 n] 45)).cell? ⟨w.heap.size, 2, none⟩ = some (.int .i64 0) := R5.out.cell 2
          have q3 : (w4.alloc (.cells #[.int .i64 T.a, .int .i64 T.b, .int .i64 T.c, .int .i64 T.d, .int .i64 T.e, .int .i64 m, .int .i64 n] 45)).cell? ⟨w.heap.size, 3, none⟩ = some (.int .i64 0) := R5.out.cell 3
          have q4 : (w4.alloc (.cells #[.int .i64 T.a, .int .i64 T.b, .int .i64 T.c, .int .i64 T.d, .int .i64 T.e, .int .i64 m, .int .i64 n] 45)).cell? ⟨w.heap.size, 4, none⟩ = some (.int .i64 0) := R5.out.cell 4
          have q5 : (w4.alloc (.cells #[.int .i64 T.a, .int .i64 T.b, .int .i64 T.c, .int .i64 T.d, .int .i64 T.e, .int .i64 m, .int .i64 n] 45)).cell? ⟨w.heap.size, 5, none⟩ = some (.int .i64 0) := R5.out.cell 5
          have q6 : (w4.alloc (.cells #[.int .i64 T.a, .int .i64 T.b, .int .i64 T.c, .int .i64 T.d, .int .i64 T.e, .int .i64 m, .int .i64 n] 45)).cell? ⟨w.heap.size, 6, none⟩ = some (.int .i64 0) := R5.out.cell 6
          have fq0 := R5.out.free 0
          have fq1 := R5.out.free 1
          have fq2 := R5.out.free 2
          have fq3 := R5.out.free 3
          have fq4 := R5.out.free 4
          have fq5 := R5.out.free 5
          have fq6 := R5.out.free 6
          have hltq : w.heap.size < (w4.alloc (.cells #[.int .i64 T.a, .int .i64 T.b, .int .i64 T.c, .int .i64 T.d, .int .i64 T.e, .int .i64 m, .int .i64 n] 45)).heap.size := R5.out.lt
          have hneq : ¬ w.heap.size = (w4.alloc (.cells #[.int .i64 T.a, .int .i64 T.b, .int .i64 T.c, .int .i64 T.d, .int .i64 T.e, .int .i64 m, .int .i64 n] 45)).heap.size := Nat.ne_of_lt hltq
          have HB4 : Hid (Below w.heap.size w (w4.alloc (.cells #[.int .i64 T.a, .int .i64 T.b, .int .i64 T.c, .int .i64 T.d, .int .i64 T.e, .int .i64 m, .int .i64 n] 45))) := Lib.hid (F4.out.alloc F4.out.size _)
          clear F1 F2 F3 F4 R5
          go_wp2_with fail
          have hb := HB4.out
          exact bodyPost_ret (v := .tuple #[.agg #[.int .i64 0, .int .i64 0, .int .i64 0, .int .i64 0, .int .i64 0, .int .i64 0, .int .i64 0], .bool false]) (by simp [results, Tryd.results19, go_sem, q0, q1, q2, q3, q4, q5, q6, hltq, hneq]) rfl ⟨by rw [e.out.1, e.out.2]; try rfl, by (repeat' (first | (with_reducible exact Below.refl _ _) | (with_reducible assumption) | (with_reducible refine below_dn ?_ _) | (with_reducible refine Below.drew ?_) | (with_reducible refine Below.alloc ?_ ?_ _) | (with_reducible refine Below.setCell ?_ ?_ _) | go_size))⟩
        | true =>
          obtain ⟨h5, h6⟩ := h4.out rfl rfl rfl
          clear h1 h2 h3 h4
          cases hq : (inB m 0 20000 && inB n 0 20) with
          | false =>
            have e := Lib.hid (glV_none (h6.trans (by rw [hq]; rfl)))
            have HV := Lib.hid (fun (w' : World) (g : Nat) (o : Own w' g 45 [.int .i64 T.a, .int .i64 T.b, .int .i64 T.c, .int .i64 T.d, .int .i64 T.e, .int .i64 m, .int .i64 n]) => spec_l10Goal w' g ⟨T, m, n⟩ o h5 hq)
            clear hq h6
            have X5 : Hid (Own (w4.alloc (.cells #[.int .i64 T.a, .int .i64 T.b, .int .i64 T.c, .int .i64 T.d, .int .i64 T.e, .int .i64 m, .int .i64 n] 45)) w4.heap.size 45 [.int .i64 T.a, .int .i64 T.b, .int .i64 T.c, .int .i64 T.d, .int .i64 T.e, .int .i64 m, .int .i64 n]) := Lib.hid (Own.new w4 _ _)
            have R5 : Hid (Own (w4.alloc (.cells #[.int .i64 T.a, .int .i64 T.b, .int .i64 T.c, .int .i64 T.d, .int .i64 T.e, .int .i64 m, .int .i64 n] 45)) w.heap.size 45 [.int .i64 0, .int .i64 0, .int .i64 0, .int .i64 0, .int .i64 0, .int .i64 0, .int .i64 0]) := Lib.hid (F3.out.alloc _)
            have B5 : Hid (Below w.heap.size w (w4.alloc (.cells #[.int .i64 T.a, .int .i64 T.b, .int .i64 T.c, .int .i64 T.d, .int .i64 T.e, .int .i64 m, .int .i64 n] 45))) := Lib.hid (F4.out.alloc F4.out.size _)
            clear F2 F3 F4 HN5 HN6 d5 d6
            go_wp2_with fail
            refine (HV.out _ _ (by exact X5.out)).mono ?_; rintro e w7 ⟨rfl, b7⟩
            have X7 := Lib.hid (X5.out.below b7 X5.out.lt)
            have R7 := Lib.hid (R5.out.below b7 R5.out.lt)
            have B7 := Lib.hid (bnext B5.out b7)
            clear b7 X5 R5 B5 F1 t0 ft0 t1 ft1 t2 ft2 t3 ft3 t4 ft4 hltt hnet
            have q0 : w7.cell? ⟨w.heap.size, 0, none⟩ = some (.int .i64 0) := R7.out.cell 0
            have q1 : w7.cell? ⟨w.heap.size, 1, none⟩ = some (.int .i64 0) := R7.out.cell 1
            have q2 : w7.cell? ⟨w.heap.size, 2, none⟩ = some (.int .i64 0) := R7.out.cell 2
            have q3 : w7.cell? ⟨w.heap.size, 3, none⟩ = some (.int .i64 0) := R7.out.cell 3
            have q4 : w7.cell? ⟨w.heap.size, 4, none⟩ = some (.int .i64 0) := R7.out.cell 4
            have q5 : w7.cell? ⟨w.heap.size, 5, none⟩ = some (.int .i64 0) := R7.out.cell 5
            have q6 : w7.cell? ⟨w.heap.size, 6, none⟩ = some (.int .i64 0) := R7.out.cell 6
            have fq0 := R7.out.free 0
            have fq1 := R7.out.free 1
            have fq2 := R7.out.free 2
            have fq3 := R7.out.free 3
            have fq4 := R7.out.free 4
            have fq5 := R7.out.free 5
            have fq6 := R7.out.free 6
            have hltq : w.heap.size < w7.heap.size := R7.out.lt
            have hneq : ¬ w.heap.size = w7.heap.size := by omega
            go_wp2_with fail
            have hb := B7.out
            exact bodyPost_ret (v := .tuple #[.agg #[.int .i64 0, .int .i64 0, .int .i64 0, .int .i64 0, .int .i64 0, .int .i64 0, .int .i64 0], .bool false]) (by simp [results, Tryd.results19, go_sem, q0, q1, q2, q3, q4, q5, q6, hltq, hneq]) rfl ⟨by rw [e.out.1, e.out.2]; try rfl, by (repeat' (first | (with_reducible exact Below.refl _ _) | (with_reducible assumption) | (with_reducible refine below_dn ?_ _) | (with_reducible refine Below.drew ?_) | (with_reducible refine Below.alloc ?_ ?_ _) | (with_reducible refine Below.setCell ?_ ?_ _) | go_size))⟩
          | true =>
            have e := Lib.hid (glV_some (h6.trans (by rw [hq]; rfl)))
            have HV := Lib.hid (fun (w' : World) (g : Nat) (o : Own w' g 45 [.int .i64 T.a, .int .i64 T.b, .int .i64 T.c, .int .i64 T.d, .int .i64 T.e, .int .i64 m, .int .i64 n]) => spec_l10Goal w' g ⟨T, m, n⟩ o h5 hq)
            clear hq h6
            have X5 : Hid (Own (w4.alloc (.cells #[.int .i64 T.a, .int .i64 T.b, .int .i64 T.c, .int .i64 T.d, .int .i64 T.e, .int .i64 m, .int .i64 n] 45)) w4.heap.size 45 [.int .i64 T.a, .int .i64 T.b, .int .i64 T.c, .int .i64 T.d, .int .i64 T.e, .int .i64 m, .int .i64 n]) := Lib.hid (Own.new w4 _ _)
            have R5 : Hid (Own (w4.alloc (.cells #[.int .i64 T.a, .int .i64 T.b, .int .i64 T.c, .int .i64 T.d, .int .i64 T.e, .int .i64 m, .int .i64 n] 45)) w.heap.size 45 [.int .i64 0, .int .i64 0, .int .i64 0, .int .i64 0, .int .i64 0, .int .i64 0, .int .i64 0]) := Lib.hid (F3.out.alloc _)
            have B5 : Hid (Below w.heap.size w (w4.alloc (.cells #[.int .i64 T.a, .int .i64 T.b, .int .i64 T.c, .int .i64 T.d, .int .i64 T.e, .int .i64 m, .int .i64 n] 45))) := Lib.hid (F4.out.alloc F4.out.size _)
            clear F2 F3 F4 HN5 HN6 d5 d6
            go_wp2_with fail
            refine (HV.out _ _ (by exact X5.out)).mono ?_; rintro e w7 ⟨rfl, b7⟩
            have X7 := Lib.hid (X5.out.below b7 X5.out.lt)
            have R7 := Lib.hid (R5.out.below b7 R5.out.lt)
            have B7 := Lib.hid (bnext B5.out b7)
            clear b7 X5 R5 B5 F1 t0 ft0 t1 ft1 t2 ft2 t3 ft3 t4 ft4 hltt hnet
            have q0 : w7.cell? ⟨w.heap.size, 0, none⟩ = some (.int .i64 0) := R7.out.cell 0
            have q1 : w7.cell? ⟨w.heap.size, 1, none⟩ = some (.int .i64 0) := R7.out.cell 1
            have q2 : w7.cell? ⟨w.heap.size, 2, none⟩ = some (.int .i64 0) := R7.out.cell 2
            have q3 : w7.cell? ⟨w.heap.size, 3, none⟩ = some (.int .i64 0) := R7.out.cell 3
            have q4 : w7.cell? ⟨w.heap.size, 4, none⟩ = some (.int .i64 0) := R7.out.cell 4
            have q5 : w7.cell? ⟨w.heap.size, 5, none⟩ = some (.int .i64 0) := R7.out.cell 5
            have q6 : w7.cell? ⟨w.heap.size, 6, none⟩ = some (.int .i64 0) := R7.out.cell 6
            have fq0 := R7.out.free 0
            have fq1 := R7.out.free 1
            have fq2 := R7.out.free 2
            have fq3 := R7.out.free 3
            have fq4 := R7.out.free 4
            have fq5 := R7.out.free 5
            have fq6 := R7.out.free 6
            have hltq : w.heap.size < w7.heap.size := R7.out.lt
            have hneq : ¬ w.heap.size = w7.heap.size := by omega
            have x0 : w7.cell? ⟨w4.heap.size, 0, none⟩ = some (.int .i64 T.a) := X7.out.cell 0
            have x1 : w7.cell? ⟨w4.heap.size, 1, none⟩ = some (.int .i64 T.b) := X7.out.cell 1
            have x2 : w7.cell? ⟨w4.heap.size, 2, none⟩ = some (.int .i64 T.c) := X7.out.cell 2
            have x3 : w7.cell? ⟨w4.heap.size, 3, none⟩ = some (.int .i64 T.d) := X7.out.cell 3
            have x4 : w7.cell? ⟨w4.heap.size, 4, none⟩ = some (.int .i64 T.e) := X7.out.cell 4
            have x5 : w7.cell? ⟨w4.heap.size, 5, none⟩ = some (.int .i64 m) := X7.out.cell 5
            have x6 : w7.cell? ⟨w4.heap.size, 6, none⟩ = some (.int .i64 n) := X7.out.cell 6
            have fx0 := X7.out.free 0
            have fx1 := X7.out.free 1
            have fx2 := X7.out.free 2
            have fx3 := X7.out.free 3
            have fx4 := X7.out.free 4
            have fx5 := X7.out.free 5
            have fx6 := X7.out.free 6
            have hltx : w4.heap.size < w7.heap.size := X7.out.lt
            have hnex : ¬ w4.heap.size = w7.heap.size := by omega
            go_wp2_with fail
            have hb := B7.out
            exact bodyPost_ret (v := .tuple #[.agg #[.int .i64 T.a, .int .i64 T.b, .int .i64 T.c, .int .i64 T.d, .int .i64 T.e, .int .i64 m, .int .i64 n], .bool true]) (by simp [results, Tryd.results19, go_sem, q0, q1, q2, q3, q4, q5, q6, hltq, hneq, x0, x1, x2, x3, x4, x5, x6, hltx, hnex]) rfl ⟨by rw [e.out.1, e.out.2]; try rfl, by (repeat' (first | (with_reducible exact Below.refl _ _) | (with_reducible assumption) | (with_reducible refine below_dn ?_ _) | (with_reducible refine Below.drew ?_) | (with_reducible refine Below.alloc ?_ ?_ _) | (with_reducible refine Below.setCell ?_ ?_ _) | go_size))⟩
  · have hw1s : w.heap.size < w1.heap.size := HR1.out.lt
    have F1 : Hid (Own (((((w3.setCell ⟨w1.heap.size, 0, none⟩ (.int .i64 T.a)).setCell ⟨w1.heap.size, 1, none⟩ (.int .i64 T.b)).setCell ⟨w1.heap.size, 2, none⟩ (.int .i64 T.c)).setCell ⟨w1.heap.size, 3, none⟩ (.int .i64 T.d)).setCell ⟨w1.heap.size, 4, none⟩ (.int .i64 T.e)) w1.heap.size 43 [.int .i64 T.a, .int .i64 T.b, .int .i64 T.c, .int .i64 T.d, .int .i64 T.e]) := Lib.hid ((((((OX.out).set 0 _).set 1 _).set 2 _).set 3 _).set 4 _)
    have F2 : Hid (Own (((((w3.setCell ⟨w1.heap.size, 0, none⟩ (.int .i64 T.a)).setCell ⟨w1.heap.size, 1, none⟩ (.int .i64 T.b)).setCell ⟨w1.heap.size, 2, none⟩ (.int .i64 T.c)).setCell ⟨w1.heap.size, 3, none⟩ (.int .i64 T.d)).setCell ⟨w1.heap.size, 4, none⟩ (.int .i64 T.e)) gx 9 ([a, b, c, d, z, u, v].flatMap putStr ++ U)) := Lib.hid ((((((HW1.out.below HB3.out HW1.out.lt).other (by show w1.heap.size ≠ gx; omega) _).other (by show w1.heap.size ≠ gx; omega) _).other (by show w1.heap.size ≠ gx; omega) _).other (by show w1.heap.size ≠ gx; omega) _).other (by show w1.heap.size ≠ gx; omega) _)
    have F3 : Hid (Own (((((w3.setCell ⟨w1.heap.size, 0, none⟩ (.int .i64 T.a)).setCell ⟨w1.heap.size, 1, none⟩ (.int .i64 T.b)).setCell ⟨w1.heap.size, 2, none⟩ (.int .i64 T.c)).setCell ⟨w1.heap.size, 3, none⟩ (.int .i64 T.d)).setCell ⟨w1.heap.size, 4, none⟩ (.int .i64 T.e)) w.heap.size 45 [.int .i64 0, .int .i64 0, .int .i64 0, .int .i64 0, .int .i64 0, .int .i64 0, .int .i64 0]) := Lib.hid ((((((HR1.out.below HB3.out HR1.out.lt).other (by show w1.heap.size ≠ w.heap.size; omega) _).other (by show w1.heap.size ≠ w.heap.size; omega) _).other (by show w1.heap.size ≠ w.heap.size; omega) _).other (by show w1.heap.size ≠ w.heap.size; omega) _).other (by show w1.heap.size ≠ w.heap.size; omega) _)
    have F4 : Hid (Below w.heap.size w (((((w3.setCell ⟨w1.heap.size, 0, none⟩ (.int .i64 T.a)).setCell ⟨w1.heap.size, 1, none⟩ (.int .i64 T.b)).setCell ⟨w1.heap.size, 2, none⟩ (.int .i64 T.c)).setCell ⟨w1.heap.size, 3, none⟩ (.int .i64 T.d)).setCell ⟨w1.heap.size, 4, none⟩ (.int .i64 T.e))) := Lib.hid (Below.setCell (Below.setCell (Below.setCell (Below.setCell (Below.setCell (bnext HB1.out HB3.out) (by show w.heap.size ≤ w1.heap.size; omega) _) (by show w.heap.size ≤ w1.heap.size; omega) _) (by show w.heap.size ≤ w1.heap.size; omega) _) (by show w.heap.size ≤ w1.heap.size; omega) _) (by show w.heap.size ≤ w1.heap.size; omega) _)
    have hgy : w.heap.size < w1.heap.size := by have := HB1.out.size; have := HR1.out.lt; have := HB3.out.size; omega
    clear HS3 HB3 HW1 HR1 HB1 d0 d1 d2 d3 d4 hne1 hne2 hg3
    generalize (((((w3.setCell ⟨w1.heap.size, 0, none⟩ (.int .i64 T.a)).setCell ⟨w1.heap.size, 1, none⟩ (.int .i64 T.b)).setCell ⟨w1.heap.size, 2, none⟩ (.int .i64 T.c)).setCell ⟨w1.heap.size, 3, none⟩ (.int .i64 T.d)).setCell ⟨w1.heap.size, 4, none⟩ (.int .i64 T.e)) = w4 at *
    generalize w1.heap.size = gX at *
    generalize (a ++ (⟨#[32]⟩ : ByteArray)) = P1
    generalize (P1 ++ b) = P2
    generalize (P2 ++ (⟨#[32]⟩ : ByteArray)) = P3
    generalize (P3 ++ c) = P4
    generalize (P4 ++ (⟨#[32]⟩ : ByteArray)) = P5
    generalize (P5 ++ d) = P6
    generalize (P6 ++ (⟨#[32]⟩ : ByteArray)) = P7
    generalize (P7 ++ z) = P8
    clear k0a k0b k0c k1a k1b k1c k2a k2b k2c k3a k3b k3c za zb zc zd zz zu zv HSO
    have hgl : w.heap.size < gX := by omega
    have hgl2 : gx < w4.heap.size := F2.out.lt
    have d5 : w4.cell? ⟨gx, 5, none⟩ = some (.string u) := F2.out.cell 5
    have d6 : w4.cell? ⟨gx, 6, none⟩ = some (.string v) := F2.out.cell 6
    have t0 : w4.cell? ⟨gX, 0, none⟩ = some (.int .i64 T.a) := F1.out.cell 0
    have t1 : w4.cell? ⟨gX, 1, none⟩ = some (.int .i64 T.b) := F1.out.cell 1
    have t2 : w4.cell? ⟨gX, 2, none⟩ = some (.int .i64 T.c) := F1.out.cell 2
    have t3 : w4.cell? ⟨gX, 3, none⟩ = some (.int .i64 T.d) := F1.out.cell 3
    have t4 : w4.cell? ⟨gX, 4, none⟩ = some (.int .i64 T.e) := F1.out.cell 4
    have ft0 := F1.out.free 0
    have ft1 := F1.out.free 1
    have ft2 := F1.out.free 2
    have ft3 := F1.out.free 3
    have ft4 := F1.out.free 4
    have hltt : gX < w4.heap.size := F1.out.lt
    have hnet : ¬ gX = w4.heap.size := by omega
    go_wp2_with fail
    refine (HN5.out _).mono ?_; rintro e w5 ⟨rfl, rfl⟩
    go_wp2_with fail
    refine (HN6.out _).mono ?_; rintro e w6 ⟨rfl, rfl⟩
    cases one with
    | false =>
      have e := Lib.hid (h1.out rfl)
      clear h1 h2 h3 h4
      have R5 : Hid (Own (w4.alloc (.cells #[.int .i64 T.a, .int .i64 T.b, .int .i64 T.c, .int .i64 T.d, .int .i64 T.e, .int .i64 m, .int .i64 n] 45)) w.heap.size 45 [.int .i64 0, .int .i64 0, .int .i64 0, .int .i64 0, .int .i64 0, .int .i64 0, .int .i64 0]) := Lib.hid (F3.out.alloc _)
      have q0 : (w4.alloc (.cells #[.int .i64 T.a, .int .i64 T.b, .int .i64 T.c, .int .i64 T.d, .int .i64 T.e, .int .i64 m, .int .i64 n] 45)).cell? ⟨w.heap.size, 0, none⟩ = some (.int .i64 0) := R5.out.cell 0
      have q1 : (w4.alloc (.cells #[.int .i64 T.a, .int .i64 T.b, .int .i64 T.c, .int .i64 T.d, .int .i64 T.e, .int .i64 m, .int .i64 n] 45)).cell? ⟨w.heap.size, 1, none⟩ = some (.int .i64 0) := R5.out.cell 1
      have q2 : (w4.alloc (.cells #[.int .i64 T.a, .int .i64 T.b, .int .i64 T.c, .int .i64 T.d, .int .i64 T.e, .int .i64 m, .int .i64 n] 45)).cell? ⟨w.heap.size, 2, none⟩ = some (.int .i64 0) := R5.out.cell 2
      have q3 : (w4.alloc (.cells #[.int .i64 T.a, .int .i64 T.b, .int .i64 T.c, .int .i64 T.d, .int .i64 T.e, .int .i64 m, .int .i64 n] 45)).cell? ⟨w.heap.size, 3, none⟩ = some (.int .i64 0) := R5.out.cell 3
      have q4 : (w4.alloc (.cells #[.int .i64 T.a, .int .i64 T.b, .int .i64 T.c, .int .i64 T.d, .int .i64 T.e, .int .i64 m, .int .i64 n] 45)).cell? ⟨w.heap.size, 4, none⟩ = some (.int .i64 0) := R5.out.cell 4
      have q5 : (w4.alloc (.cells #[.int .i64 T.a, .int .i64 T.b, .int .i64 T.c, .int .i64 T.d, .int .i64 T.e, .int .i64 m, .int .i64 n] 45)).cell? ⟨w.heap.size, 5, none⟩ = some (.int .i64 0) := R5.out.cell 5
      have q6 : (w4.alloc (.cells #[.int .i64 T.a, .int .i64 T.b, .int .i64 T.c, .int .i64 T.d, .int .i64 T.e, .int .i64 m, .int .i64 n] 45)).cell? ⟨w.heap.size, 6, none⟩ = some (.int .i64 0) := R5.out.cell 6
      have fq0 := R5.out.free 0
      have fq1 := R5.out.free 1
      have fq2 := R5.out.free 2
      have fq3 := R5.out.free 3
      have fq4 := R5.out.free 4
      have fq5 := R5.out.free 5
      have fq6 := R5.out.free 6
      have hltq : w.heap.size < (w4.alloc (.cells #[.int .i64 T.a, .int .i64 T.b, .int .i64 T.c, .int .i64 T.d, .int .i64 T.e, .int .i64 m, .int .i64 n] 45)).heap.size := R5.out.lt
      have hneq : ¬ w.heap.size = (w4.alloc (.cells #[.int .i64 T.a, .int .i64 T.b, .int .i64 T.c, .int .i64 T.d, .int .i64 T.e, .int .i64 m, .int .i64 n] 45)).heap.size := Nat.ne_of_lt hltq
      have HB4 : Hid (Below w.heap.size w (w4.alloc (.cells #[.int .i64 T.a, .int .i64 T.b, .int .i64 T.c, .int .i64 T.d, .int .i64 T.e, .int .i64 m, .int .i64 n] 45))) := Lib.hid (F4.out.alloc F4.out.size _)
      clear F1 F2 F3 F4 R5
      go_wp2_with fail
      have hb := HB4.out
      exact bodyPost_ret (v := .tuple #[.agg #[.int .i64 0, .int .i64 0, .int .i64 0, .int .i64 0, .int .i64 0, .int .i64 0, .int .i64 0], .bool false]) (by simp [results, Tryd.results19, go_sem, q0, q1, q2, q3, q4, q5, q6, hltq, hneq]) rfl ⟨by rw [e.out.1, e.out.2]; try rfl, by (repeat' (first | (with_reducible exact Below.refl _ _) | (with_reducible assumption) | (with_reducible refine below_dn ?_ _) | (with_reducible refine Below.drew ?_) | (with_reducible refine Below.alloc ?_ ?_ _) | (with_reducible refine Below.setCell ?_ ?_ _) | go_size))⟩
    | true =>
      cases two with
      | false =>
        have e := Lib.hid (h2.out rfl)
        clear h1 h2 h3 h4
        have R5 : Hid (Own (w4.alloc (.cells #[.int .i64 T.a, .int .i64 T.b, .int .i64 T.c, .int .i64 T.d, .int .i64 T.e, .int .i64 m, .int .i64 n] 45)) w.heap.size 45 [.int .i64 0, .int .i64 0, .int .i64 0, .int .i64 0, .int .i64 0, .int .i64 0, .int .i64 0]) := Lib.hid (F3.out.alloc _)
        have q0 : (w4.alloc (.cells #[.int .i64 T.a, .int .i64 T.b, .int .i64 T.c, .int .i64 T.d, .int .i64 T.e, .int .i64 m, .int .i64 n] 45)).cell? ⟨w.heap.size, 0, none⟩ = some (.int .i64 0) := R5.out.cell 0
        have q1 : (w4.alloc (.cells #[.int .i64 T.a, .int .i64 T.b, .int .i64 T.c, .int .i64 T.d, .int .i64 T.e, .int .i64 m, .int .i64 n] 45)).cell? ⟨w.heap.size, 1, none⟩ = some (.int .i64 0) := R5.out.cell 1
        have q2 : (w4.alloc (.cells #[.int .i64 T.a, .int .i64 T.b, .int .i64 T.c, .int .i64 T.d, .int .i64 T.e, .int .i64 m, .int .i64 n] 45)).cell? ⟨w.heap.size, 2, none⟩ = some (.int .i64 0) := R5.out.cell 2
        have q3 : (w4.alloc (.cells #[.int .i64 T.a, .int .i64 T.b, .int .i64 T.c, .int .i64 T.d, .int .i64 T.e, .int .i64 m, .int .i64 n] 45)).cell? ⟨w.heap.size, 3, none⟩ = some (.int .i64 0) := R5.out.cell 3
        have q4 : (w4.alloc (.cells #[.int .i64 T.a, .int .i64 T.b, .int .i64 T.c, .int .i64 T.d, .int .i64 T.e, .int .i64 m, .int .i64 n] 45)).cell? ⟨w.heap.size, 4, none⟩ = some (.int .i64 0) := R5.out.cell 4
        have q5 : (w4.alloc (.cells #[.int .i64 T.a, .int .i64 T.b, .int .i64 T.c, .int .i64 T.d, .int .i64 T.e, .int .i64 m, .int .i64 n] 45)).cell? ⟨w.heap.size, 5, none⟩ = some (.int .i64 0) := R5.out.cell 5
        have q6 : (w4.alloc (.cells #[.int .i64 T.a, .int .i64 T.b, .int .i64 T.c, .int .i64 T.d, .int .i64 T.e, .int .i64 m, .int .i64 n] 45)).cell? ⟨w.heap.size, 6, none⟩ = some (.int .i64 0) := R5.out.cell 6
        have fq0 := R5.out.free 0
        have fq1 := R5.out.free 1
        have fq2 := R5.out.free 2
        have fq3 := R5.out.free 3
        have fq4 := R5.out.free 4
        have fq5 := R5.out.free 5
        have fq6 := R5.out.free 6
        have hltq : w.heap.size < (w4.alloc (.cells #[.int .i64 T.a, .int .i64 T.b, .int .i64 T.c, .int .i64 T.d, .int .i64 T.e, .int .i64 m, .int .i64 n] 45)).heap.size := R5.out.lt
        have hneq : ¬ w.heap.size = (w4.alloc (.cells #[.int .i64 T.a, .int .i64 T.b, .int .i64 T.c, .int .i64 T.d, .int .i64 T.e, .int .i64 m, .int .i64 n] 45)).heap.size := Nat.ne_of_lt hltq
        have HB4 : Hid (Below w.heap.size w (w4.alloc (.cells #[.int .i64 T.a, .int .i64 T.b, .int .i64 T.c, .int .i64 T.d, .int .i64 T.e, .int .i64 m, .int .i64 n] 45))) := Lib.hid (F4.out.alloc F4.out.size _)
        clear F1 F2 F3 F4 R5
        go_wp2_with fail
        have hb := HB4.out
        exact bodyPost_ret (v := .tuple #[.agg #[.int .i64 0, .int .i64 0, .int .i64 0, .int .i64 0, .int .i64 0, .int .i64 0, .int .i64 0], .bool false]) (by simp [results, Tryd.results19, go_sem, q0, q1, q2, q3, q4, q5, q6, hltq, hneq]) rfl ⟨by rw [e.out.1, e.out.2]; try rfl, by (repeat' (first | (with_reducible exact Below.refl _ _) | (with_reducible assumption) | (with_reducible refine below_dn ?_ _) | (with_reducible refine Below.drew ?_) | (with_reducible refine Below.alloc ?_ ?_ _) | (with_reducible refine Below.setCell ?_ ?_ _) | go_size))⟩
      | true =>
        cases three with
        | false =>
          have e := Lib.hid (h3.out rfl)
          clear h1 h2 h3 h4
          have R5 : Hid (Own (w4.alloc (.cells #[.int .i64 T.a, .int .i64 T.b, .int .i64 T.c, .int .i64 T.d, .int .i64 T.e, .int .i64 m, .int .i64 n] 45)) w.heap.size 45 [.int .i64 0, .int .i64 0, .int .i64 0, .int .i64 0, .int .i64 0, .int .i64 0, .int .i64 0]) := Lib.hid (F3.out.alloc _)
          have q0 : (w4.alloc (.cells #[.int .i64 T.a, .int .i64 T.b, .int .i64 T.c, .int .i64 T.d, .int .i64 T.e, .int .i64 m, .int .i64 n] 45)).cell? ⟨w.heap.size, 0, none⟩ = some (.int .i64 0) := R5.out.cell 0
          have q1 : (w4.alloc (.cells #[.int .i64 T.a, .int .i64 T.b, .int .i64 T.c, .int .i64 T.d, .int .i64 T.e, .int .i64 m, .int .i64 n] 45)).cell? ⟨w.heap.size, 1, none⟩ = some (.int .i64 0) := R5.out.cell 1
          have q2 : (w4.alloc (.cells #[.int .i64 T.a, .int .i64 T.b, .int .i64 T.c, .int .i64 T.d, .int .i64 T.e, .int .i64 m, .int .i64 n] 45)).cell? ⟨w.heap.size, 2, none⟩ = some (.int .i64 0) := R5.out.cell 2
          have q3 : (w4.alloc (.cells #[.int .i64 T.a, .int .i64 T.b, .int .i64 T.c, .int .i64 T.d, .int .i64 T.e, .int .i64 m, .int .i64 n] 45)).cell? ⟨w.heap.size, 3, none⟩ = some (.int .i64 0) := R5.out.cell 3
          have q4 : (w4.alloc (.cells #[.int .i64 T.a, .int .i64 T.b, .int .i64 T.c, .int .i64 T.d, .int .i64 T.e, .int .i64 m, .int .i64 n] 45)).cell? ⟨w.heap.size, 4, none⟩ = some (.int .i64 0) := R5.out.cell 4
          have q5 : (w4.alloc (.cells #[.int .i64 T.a, .int .i64 T.b, .int .i64 T.c, .int .i64 T.d, .int .i64 T.e, .int .i64 m, .int .i64 n] 45)).cell? ⟨w.heap.size, 5, none⟩ = some (.int .i64 0) := R5.out.cell 5
          have q6 : (w4.alloc (.cells #[.int .i64 T.a, .int .i64 T.b, .int .i64 T.c, .int .i64 T.d, .int .i64 T.e, .int .i64 m, .int .i64 n] 45)).cell? ⟨w.heap.size, 6, none⟩ = some (.int .i64 0) := R5.out.cell 6
          have fq0 := R5.out.free 0
          have fq1 := R5.out.free 1
          have fq2 := R5.out.free 2
          have fq3 := R5.out.free 3
          have fq4 := R5.out.free 4
          have fq5 := R5.out.free 5
          have fq6 := R5.out.free 6
          have hltq : w.heap.size < (w4.alloc (.cells #[.int .i64 T.a, .int .i64 T.b, .int .i64 T.c, .int .i64 T.d, .int .i64 T.e, .int .i64 m, .int .i64 n] 45)).heap.size := R5.out.lt
          have hneq : ¬ w.heap.size = (w4.alloc (.cells #[.int .i64 T.a, .int .i64 T.b, .int .i64 T.c, .int .i64 T.d, .int .i64 T.e, .int .i64 m, .int .i64 n] 45)).heap.size := Nat.ne_of_lt hltq
          have HB4 : Hid (Below w.heap.size w (w4.alloc (.cells #[.int .i64 T.a, .int .i64 T.b, .int .i64 T.c, .int .i64 T.d, .int .i64 T.e, .int .i64 m, .int .i64 n] 45))) := Lib.hid (F4.out.alloc F4.out.size _)
          clear F1 F2 F3 F4 R5
          go_wp2_with fail
          have hb := HB4.out
          exact bodyPost_ret (v := .tuple #[.agg #[.int .i64 0, .int .i64 0, .int .i64 0, .int .i64 0, .int .i64 0, .int .i64 0, .int .i64 0], .bool false]) (by simp [results, Tryd.results19, go_sem, q0, q1, q2, q3, q4, q5, q6, hltq, hneq]) rfl ⟨by rw [e.out.1, e.out.2]; try rfl, by (repeat' (first | (with_reducible exact Below.refl _ _) | (with_reducible assumption) | (with_reducible refine below_dn ?_ _) | (with_reducible refine Below.drew ?_) | (with_reducible refine Below.alloc ?_ ?_ _) | (with_reducible refine Below.setCell ?_ ?_ _) | go_size))⟩
        | true =>
          obtain ⟨h5, h6⟩ := h4.out rfl rfl rfl
          clear h1 h2 h3 h4
          cases hq : (inB m 0 20000 && inB n 0 20) with
          | false =>
            have e := Lib.hid (glV_none (h6.trans (by rw [hq]; rfl)))
            have HV := Lib.hid (fun (w' : World) (g : Nat) (o : Own w' g 45 [.int .i64 T.a, .int .i64 T.b, .int .i64 T.c, .int .i64 T.d, .int .i64 T.e, .int .i64 m, .int .i64 n]) => spec_l10Goal w' g ⟨T, m, n⟩ o h5 hq)
            clear hq h6
            have X5 : Hid (Own (w4.alloc (.cells #[.int .i64 T.a, .int .i64 T.b, .int .i64 T.c, .int .i64 T.d, .int .i64 T.e, .int .i64 m, .int .i64 n] 45)) w4.heap.size 45 [.int .i64 T.a, .int .i64 T.b, .int .i64 T.c, .int .i64 T.d, .int .i64 T.e, .int .i64 m, .int .i64 n]) := Lib.hid (Own.new w4 _ _)
            have R5 : Hid (Own (w4.alloc (.cells #[.int .i64 T.a, .int .i64 T.b, .int .i64 T.c, .int .i64 T.d, .int .i64 T.e, .int .i64 m, .int .i64 n] 45)) w.heap.size 45 [.int .i64 0, .int .i64 0, .int .i64 0, .int .i64 0, .int .i64 0, .int .i64 0, .int .i64 0]) := Lib.hid (F3.out.alloc _)
            have B5 : Hid (Below w.heap.size w (w4.alloc (.cells #[.int .i64 T.a, .int .i64 T.b, .int .i64 T.c, .int .i64 T.d, .int .i64 T.e, .int .i64 m, .int .i64 n] 45))) := Lib.hid (F4.out.alloc F4.out.size _)
            clear F2 F3 F4 HN5 HN6 d5 d6
            go_wp2_with fail
            refine (HV.out _ _ (by exact X5.out)).mono ?_; rintro e w7 ⟨rfl, b7⟩
            have X7 := Lib.hid (X5.out.below b7 X5.out.lt)
            have R7 := Lib.hid (R5.out.below b7 R5.out.lt)
            have B7 := Lib.hid (bnext B5.out b7)
            clear b7 X5 R5 B5 F1 t0 ft0 t1 ft1 t2 ft2 t3 ft3 t4 ft4 hltt hnet
            have q0 : w7.cell? ⟨w.heap.size, 0, none⟩ = some (.int .i64 0) := R7.out.cell 0
            have q1 : w7.cell? ⟨w.heap.size, 1, none⟩ = some (.int .i64 0) := R7.out.cell 1
            have q2 : w7.cell? ⟨w.heap.size, 2, none⟩ = some (.int .i64 0) := R7.out.cell 2
            have q3 : w7.cell? ⟨w.heap.size, 3, none⟩ = some (.int .i64 0) := R7.out.cell 3
            have q4 : w7.cell? ⟨w.heap.size, 4, none⟩ = some (.int .i64 0) := R7.out.cell 4
            have q5 : w7.cell? ⟨w.heap.size, 5, none⟩ = some (.int .i64 0) := R7.out.cell 5
            have q6 : w7.cell? ⟨w.heap.size, 6, none⟩ = some (.int .i64 0) := R7.out.cell 6
            have fq0 := R7.out.free 0
            have fq1 := R7.out.free 1
            have fq2 := R7.out.free 2
            have fq3 := R7.out.free 3
            have fq4 := R7.out.free 4
            have fq5 := R7.out.free 5
            have fq6 := R7.out.free 6
            have hltq : w.heap.size < w7.heap.size := R7.out.lt
            have hneq : ¬ w.heap.size = w7.heap.size := by omega
            go_wp2_with fail
            have hb := B7.out
            exact bodyPost_ret (v := .tuple #[.agg #[.int .i64 0, .int .i64 0, .int .i64 0, .int .i64 0, .int .i64 0, .int .i64 0, .int .i64 0], .bool false]) (by simp [results, Tryd.results19, go_sem, q0, q1, q2, q3, q4, q5, q6, hltq, hneq]) rfl ⟨by rw [e.out.1, e.out.2]; try rfl, by (repeat' (first | (with_reducible exact Below.refl _ _) | (with_reducible assumption) | (with_reducible refine below_dn ?_ _) | (with_reducible refine Below.drew ?_) | (with_reducible refine Below.alloc ?_ ?_ _) | (with_reducible refine Below.setCell ?_ ?_ _) | go_size))⟩
          | true =>
            have e := Lib.hid (glV_some (h6.trans (by rw [hq]; rfl)))
            have HV := Lib.hid (fun (w' : World) (g : Nat) (o : Own w' g 45 [.int .i64 T.a, .int .i64 T.b, .int .i64 T.c, .int .i64 T.d, .int .i64 T.e, .int .i64 m, .int .i64 n]) => spec_l10Goal w' g ⟨T, m, n⟩ o h5 hq)
            clear hq h6
            have X5 : Hid (Own (w4.alloc (.cells #[.int .i64 T.a, .int .i64 T.b, .int .i64 T.c, .int .i64 T.d, .int .i64 T.e, .int .i64 m, .int .i64 n] 45)) w4.heap.size 45 [.int .i64 T.a, .int .i64 T.b, .int .i64 T.c, .int .i64 T.d, .int .i64 T.e, .int .i64 m, .int .i64 n]) := Lib.hid (Own.new w4 _ _)
            have R5 : Hid (Own (w4.alloc (.cells #[.int .i64 T.a, .int .i64 T.b, .int .i64 T.c, .int .i64 T.d, .int .i64 T.e, .int .i64 m, .int .i64 n] 45)) w.heap.size 45 [.int .i64 0, .int .i64 0, .int .i64 0, .int .i64 0, .int .i64 0, .int .i64 0, .int .i64 0]) := Lib.hid (F3.out.alloc _)
            have B5 : Hid (Below w.heap.size w (w4.alloc (.cells #[.int .i64 T.a, .int .i64 T.b, .int .i64 T.c, .int .i64 T.d, .int .i64 T.e, .int .i64 m, .int .i64 n] 45))) := Lib.hid (F4.out.alloc F4.out.size _)
            clear F2 F3 F4 HN5 HN6 d5 d6
            go_wp2_with fail
            refine (HV.out _ _ (by exact X5.out)).mono ?_; rintro e w7 ⟨rfl, b7⟩
            have X7 := Lib.hid (X5.out.below b7 X5.out.lt)
            have R7 := Lib.hid (R5.out.below b7 R5.out.lt)
            have B7 := Lib.hid (bnext B5.out b7)
            clear b7 X5 R5 B5 F1 t0 ft0 t1 ft1 t2 ft2 t3 ft3 t4 ft4 hltt hnet
            have q0 : w7.cell? ⟨w.heap.size, 0, none⟩ = some (.int .i64 0) := R7.out.cell 0
            have q1 : w7.cell? ⟨w.heap.size, 1, none⟩ = some (.int .i64 0) := R7.out.cell 1
            have q2 : w7.cell? ⟨w.heap.size, 2, none⟩ = some (.int .i64 0) := R7.out.cell 2
            have q3 : w7.cell? ⟨w.heap.size, 3, none⟩ = some (.int .i64 0) := R7.out.cell 3
            have q4 : w7.cell? ⟨w.heap.size, 4, none⟩ = some (.int .i64 0) := R7.out.cell 4
            have q5 : w7.cell? ⟨w.heap.size, 5, none⟩ = some (.int .i64 0) := R7.out.cell 5
            have q6 : w7.cell? ⟨w.heap.size, 6, none⟩ = some (.int .i64 0) := R7.out.cell 6
            have fq0 := R7.out.free 0
            have fq1 := R7.out.free 1
            have fq2 := R7.out.free 2
            have fq3 := R7.out.free 3
            have fq4 := R7.out.free 4
            have fq5 := R7.out.free 5
            have fq6 := R7.out.free 6
            have hltq : w.heap.size < w7.heap.size := R7.out.lt
            have hneq : ¬ w.heap.size = w7.heap.size := by omega
            have x0 : w7.cell? ⟨w4.heap.size, 0, none⟩ = some (.int .i64 T.a) := X7.out.cell 0
            have x1 : w7.cell? ⟨w4.heap.size, 1, none⟩ = some (.int .i64 T.b) := X7.out.cell 1
            have x2 : w7.cell? ⟨w4.heap.size, 2, none⟩ = some (.int .i64 T.c) := X7.out.cell 2
            have x3 : w7.cell? ⟨w4.heap.size, 3, none⟩ = some (.int .i64 T.d) := X7.out.cell 3
            have x4 : w7.cell? ⟨w4.heap.size, 4, none⟩ = some (.int .i64 T.e) := X7.out.cell 4
            have x5 : w7.cell? ⟨w4.heap.size, 5, none⟩ = some (.int .i64 m) := X7.out.cell 5
            have x6 : w7.cell? ⟨w4.heap.size, 6, none⟩ = some (.int .i64 n) := X7.out.cell 6
            have fx0 := X7.out.free 0
            have fx1 := X7.out.free 1
            have fx2 := X7.out.free 2
            have fx3 := X7.out.free 3
            have fx4 := X7.out.free 4
            have fx5 := X7.out.free 5
            have fx6 := X7.out.free 6
            have hltx : w4.heap.size < w7.heap.size := X7.out.lt
            have hnex : ¬ w4.heap.size = w7.heap.size := by omega
            go_wp2_with fail
            have hb := B7.out
            exact bodyPost_ret (v := .tuple #[.agg #[.int .i64 T.a, .int .i64 T.b, .int .i64 T.c, .int .i64 T.d, .int .i64 T.e, .int .i64 m, .int .i64 n], .bool true]) (by simp [results, Tryd.results19, go_sem, q0, q1, q2, q3, q4, q5, q6, hltq, hneq, x0, x1, x2, x3, x4, x5, x6, hltx, hnex]) rfl ⟨by rw [e.out.1, e.out.2]; try rfl, by (repeat' (first | (with_reducible exact Below.refl _ _) | (with_reducible assumption) | (with_reducible refine below_dn ?_ _) | (with_reducible refine Below.drew ?_) | (with_reducible refine Below.alloc ?_ ?_ _) | (with_reducible refine Below.setCell ?_ ?_ _) | go_size))⟩
end Go.Proofs.YtklgkbiobggbiaaDoor
