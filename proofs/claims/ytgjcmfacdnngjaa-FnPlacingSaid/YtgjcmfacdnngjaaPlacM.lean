/- FnPlacing: mostPlaced. -/
import Derived.Test.YtgjcmfacdnngjaaRows
import Derived.Test.YtgjcmfacdnngjaaPlacL2
import Derived.Test.YtgjcmfacdnngjaaAppSl
namespace Go.Proofs.Ytgjcmfacdnngjaa
open Go.ChangeShapes Go.WideShapes Go.ChangeAt Go.RowKit Go.Deep Go.Joins
set_option linter.unusedVariables false
set_option maxRecDepth 100000
set_option linter.unusedSimpArgs false
/-- lists of numbers in memory -/
def Cho (B : Nat) (w : World) : List Value → List (List Nat) → Prop
  | [], [] => True
  | l :: ls, c :: cs => Rd B w l 1 c.length ((intsN c).flatMap putI) ∧ Cho B w ls cs
  | _, _ => False
theorem Cho.up {B B' : Nat} {w w' : World} : ∀ {ls : List Value} {cs : List (List Nat)}, Cho B w ls cs → Below B w w' → B ≤ B' → Cho B' w' ls cs
  | [], [], _, _, _ => trivial
  | _ :: _, _ :: _, h, b, hB => ⟨(h.1.below b).mono hB, Cho.up h.2 b hB⟩
theorem Cho.len {B : Nat} {w : World} : ∀ {ls : List Value} {cs : List (List Nat)}, Cho B w ls cs → ls.length = cs.length
  | [], [], _ => rfl
  | _ :: _, _ :: _, h => by simpa using Cho.len h.2
theorem bestU_no {f : Nat → Nat} {u n k m : Nat} {ks : List Nat} (h : (!bitU u k && decide (m < n)) = false) : bestU f u n (k :: ks) m = bestU f u n ks m := by
  show bestU f u n ks (if (!bitU u k && decide (m < n)) = true then _ else m) = _
  rw [h]; rfl
theorem bestU_yes {f : Nat → Nat} {u n k m : Nat} {ks : List Nat} (h : (!bitU u k && decide (m < n)) = true) : bestU f u n (k :: ks) m = bestU f u n ks (max m (1 + f (setU u k))) := by
  show bestU f u n ks (if (!bitU u k && decide (m < n)) = true then _ else m) = _
  rw [h]; rfl
theorem drop_at {α : Type} (c : List α) (j : Nat) (h : j < c.length) : c.drop j = c[j] :: c.drop (j + 1) := by
  rw [List.drop_eq_getElem_cons h]

theorem bits_and4 : ∀ u : Nat, u < 16 → ∀ k : Nat, k < 4 → bits BinOp.and IntKind.i64 ((u : Int) / 2 ^ k) 1 = if bitU u k then 1 else 0 := by decide
theorem impl_size_L (w : World) (ao : Option Addr) (n cap : Nat) (hn : n ≤ 1048576) : Calls Try.prog 34 #[.slice ao n cap] w fun e w' => e = .returned (.int .i64 n) ∧ w = w' := by
  go_enter Try.func34, Try.ntmps34
  go_wp2
  go_ret
  exact ⟨rfl, rfl⟩
theorem bits_or4 : ∀ u : Nat, u < 16 → ∀ k : Nat, k < 4 → bits BinOp.or IntKind.i64 (u : Int) (wrap64 (2 ^ k)) = (setU u k : Int) := by decide +kernel
set_option maxHeartbeats 4000000 in
theorem impl_mostPlaced : ∀ (cs : List (List Nat)) (w : World) (v : Value) (ls : List Value) (u : Nat), Rd w.heap.size w v 1 cs.length ls → Cho w.heap.size w ls cs → cs.length ≤ 8 → (∀ c ∈ cs, c.length ≤ 8 ∧ ∀ k ∈ c, k < 4) → u < 16 →
    Calls Try.prog 22 #[v, .int .i64 u] w fun e w' => e = .returned (.int .i64 (mostU cs u)) ∧ Below w.heap.size w w'
  | [], w, v, ls, u, h, _, _, _, _ => by
    obtain ⟨ao, cap, rfl⟩ := h.form
    clear h
    go_enter Try.func22, Try.ntmps22
    go_wp2_with fail
    go_ret
    exact ⟨rfl, by (repeat' (first | (with_reducible exact Below.refl _ _) | (with_reducible assumption) | (with_reducible refine below_dn ?_ _) | (with_reducible refine Below.drew ?_) | (with_reducible refine Below.alloc ?_ ?_ _) | (with_reducible refine Below.setCell ?_ ?_ _) | go_size))⟩
  | c :: cs, w, v, [], u, h, hc, _, _, _ => False.elim hc
  | c :: cs, w, v, l :: ls, u, h, hc, hl, hk, hu => by
    have IH : Hid (∀ (w' : World) (v' : Value) (u' : Nat), Rd w'.heap.size w' v' 1 cs.length ls → Cho w'.heap.size w' ls cs → u' < 16 → Calls Try.prog 22 #[v', .int .i64 u'] w' fun e w'' => e = .returned (.int .i64 (mostU cs u')) ∧ Below w'.heap.size w' w'') := Lib.hid (fun w' v' u' h1 h2 h3 => impl_mostPlaced cs w' v' ls u' h1 h2 (by simp at hl; omega) (fun c' h' => hk c' (List.mem_cons_of_mem _ h')) h3)
    have hkc := Lib.hid (hk c (List.mem_cons_self ..))
    have H1 := Lib.hid h
    have HC := Lib.hid hc
    obtain ⟨lo, lc, rfl⟩ := hc.1.form
    have hlc : cs.length ≤ 7 := by simp at hl; omega
    obtain ⟨hL, ao, cap, rfl, hcap, hmax, hnil, hsome⟩ := h
    obtain ⟨b, off, rfl, hb, hcell⟩ := hsome (by simp)
    have x0 : w.cell? ⟨b, off, none⟩ = some (.slice lo c.length lc) := by
      have := hcell 0 (by simp)
      simpa using this
    have t0 : ((cs.length : Int) + 1 == 0) = false := beq_eq_false_iff_ne.2 (by omega)
    have t1 : ¬ (cs.length : Int) + 1 < 1 := by omega
    clear hsome hnil hcell hc hL hk
    obtain ⟨R, hR⟩ : ∃ R, mostU (c :: cs) u = R := ⟨_, rfl⟩
    have HRM : Hid (bestU (mostU cs) u (cs.length + 1) c (mostU cs u) = R) := Lib.hid hR
    have HF : Hid (∀ u', mostU cs u' ≤ cs.length) := Lib.hid (fun u' => mostU_le cs u')
    have hFu := mostU_le cs u
    rw [hR]
    clear hR
    generalize mostU cs = F at *
    by_cases hq : cap = 1
    · have HT : Hid (Rd w.heap.size w (.slice (some ⟨b, off, none⟩) cs.length 0) 1 cs.length ls) := Lib.hid (H1.out.dropZ (j := 1) (by have h7 : cs.length + 1 ≤ cap := hcap; show 1 = cs.length + 1; omega) (by have h7 : cs.length + 1 ≤ cap := hcap; omega) (Nat.zero_le _))
      go_enter Try.func22, Try.ntmps22
      go_wp2_with fail
      refine (IH.out w _ u HT.out HC.out.2 hu).mono ?_; rintro e w1 ⟨rfl, b1⟩
      have x1 : w1.cell? ⟨b, off, none⟩ = some (.slice lo c.length lc) := (b1.cell (p := ⟨b, off, none⟩) hb).trans x0
      have hb1 : b < w1.heap.size := Nat.lt_of_lt_of_le hb b1.size
      have HT1 := Lib.hid (HT.out.up b1)
      have HC1 := Lib.hid (HC.out.2.up b1 b1.size)
      have HR1 := Lib.hid (HC.out.1.up b1)
      have HB1 := Lib.hid b1
      clear b1 HT HC x0 hb
      go_wp2_with fail
      go_loopw [5, 19] (fun m i wr => ∃ (j M : Nat), j ≤ c.length ∧ i = .int .i64 j ∧ m = .int .i64 M ∧ M ≤ cs.length + 1 ∧ bestU F u (cs.length + 1) (c.drop j) M = R ∧ Below w1.heap.size w1 wr) (fun _ i _ => c.length - (intOf i).toNat)
      case atStart => exact ⟨0, F u, Nat.zero_le _, rfl, rfl, by omega, HRM.out, Below.refl _ _⟩
      case round =>
        obtain ⟨j, M, hj, rfl, rfl, hM, hbest, hbr⟩ := hrel
        have HBE := Lib.hid hbest
        clear hbest
        by_cases hlt : j < c.length
        · obtain ⟨hc1, hc2⟩ := hkc.out
          have hk4 : c[j] < 4 := hc2 _ (List.getElem_mem hlt)
          have HD := Lib.hid (drop_at c j hlt)
          obtain ⟨_, o2, cap2, e2, _, _, _, hs2⟩ := HR1.out
          cases e2
          obtain ⟨b2, off2, rfl, hbb2, hcc2⟩ := hs2 (by omega)
          have y0 : wr.cell? ⟨b2, off2 + j, none⟩ = some (.int .i64 (c[j] : Int)) := by rw [hbr.cell (p := ⟨b2, off2 + j, none⟩) hbb2, hcc2 j (by omega), intsN_get c j hlt]
          have hbr2 : b2 < wr.heap.size := Nat.lt_of_lt_of_le hbb2 hbr.size
          have HBR := Lib.hid hbr
          clear hs2 hcc2 hc2 hbr
          generalize c[j] = k at *
          have hand := bits_and4 u hu k hk4
          have hor := bits_or4 u hu k hk4
          cases hbit : bitU u k with
          | true =>
            have tb : ¬ bits BinOp.and IntKind.i64 ((u : Int) / 2 ^ k) 1 = 0 := by rw [hand, hbit]; decide
            have ES : Hid (bestU F u (cs.length + 1) (c.drop (j + 1)) M = R) := Lib.hid (by rw [← HBE.out, HD.out, bestU_no (by rw [hbit]; rfl)])
            clear hand hor hbit
            go_wp2_with fail
            go_roundw
            case rel => exact ⟨j + 1, M, by omega, by go_num, rfl, hM, ES.out, HBR.out⟩
            case measure => simp [intOf]; omega
          | false =>
            have tb : bits BinOp.and IntKind.i64 ((u : Int) / 2 ^ k) 1 = 0 := by rw [hand, hbit]; rfl
            clear hand
            by_cases hmn : M < cs.length + 1
            · have tm : decide ((M : Int) < (cs.length : Int) + 1) = true := decide_eq_true (by omega)
              have ES : Hid (bestU F u (cs.length + 1) (c.drop (j + 1)) (max M (1 + F (setU u k))) = R) := Lib.hid (by rw [← HBE.out, HD.out, bestU_yes (by rw [hbit, decide_eq_true hmn]; rfl)])
              have IHX : Hid (∀ (x : World) (n : Int), n = (setU u k : Int) → Calls Try.prog 22 #[.slice (some ⟨b, off, none⟩) cs.length 0, .int .i64 n] (above wr x) fun e w'' => e = .returned (.int .i64 (F (setU u k))) ∧ Below (above wr x).heap.size (above wr x) w'') := Lib.hid (fun x n hn => hn ▸ IH.out (above wr x) _ (setU u k) ((HT1.out.up HBR.out).up (above_below wr x)) ((HC1.out.up HBR.out HBR.out.size).up (above_below wr x) (above_below wr x).size) (setU_lt u hu k hk4))
              have hFx := HF.out (setU u k)
              go_wp2_with (go_at_call 34; refine (impl_size_L _ _ _ _ (by omega)).mono ?_; rintro e' w' ⟨rfl, rfl⟩)
              refine wp_region_above (by kernel_rfl) (by kernel_rfl) ?_
              repeat (go_big_quiet_step (((go_at_call 22; exact aboveC (IHX.out _ _ rfl)))))
              refine wpQuiet_nil ?_
              intro w2 b2
              have HB2 := Lib.hid (HBR.out.trans (b2.mono HBR.out.size))
              clear b2 hbit
              go_wp2_with fail
              go_roundw
              case rel => exact ⟨j + 1, max M (1 + F (setU u k)), by omega, by go_num, by congr 1; omega, by have := HF.out (setU u k); omega, ES.out, HB2.out⟩
              case measure => simp [intOf]; omega
            · have tm : decide ((M : Int) < (cs.length : Int) + 1) = false := decide_eq_false (by omega)
              have ES : Hid (bestU F u (cs.length + 1) (c.drop (j + 1)) M = R) := Lib.hid (by rw [← HBE.out, HD.out, bestU_no (by rw [hbit, decide_eq_false hmn]; rfl)])
              clear hor hbit
              go_wp2_with (go_at_call 34; refine (impl_size_L _ _ _ _ (by omega)).mono ?_; rintro e' w' ⟨rfl, rfl⟩)
              go_roundw
              case rel => exact ⟨j + 1, M, by omega, by go_num, rfl, hM, ES.out, HBR.out⟩
              case measure => simp [intOf]; omega
        · have ej : c.drop j = [] := List.drop_eq_nil_of_le (by omega)
          have EM : Hid (M = R) := Lib.hid (by have := HBE.out; rw [ej] at this; exact this)
          have HBX := Lib.hid (bnext HB1.out hbr)
          clear hbr ej
          go_wp2_with fail
          go_ret
          exact ⟨by rw [EM.out]; rfl, HBX.out⟩
    · have HT : Hid (Rd w.heap.size w (.slice (some ⟨b, off + 1, none⟩) cs.length (cap - 1)) 1 cs.length ls) := Lib.hid (H1.out.dropS (j := 1) (by simp))
      go_enter Try.func22, Try.ntmps22
      go_wp2_with fail
      refine (IH.out w _ u HT.out HC.out.2 hu).mono ?_; rintro e w1 ⟨rfl, b1⟩
      have x1 : w1.cell? ⟨b, off, none⟩ = some (.slice lo c.length lc) := (b1.cell (p := ⟨b, off, none⟩) hb).trans x0
      have hb1 : b < w1.heap.size := Nat.lt_of_lt_of_le hb b1.size
      have HT1 := Lib.hid (HT.out.up b1)
      have HC1 := Lib.hid (HC.out.2.up b1 b1.size)
      have HR1 := Lib.hid (HC.out.1.up b1)
      have HB1 := Lib.hid b1
      clear b1 HT HC x0 hb
      go_wp2_with fail
      go_loopw [5, 19] (fun m i wr => ∃ (j M : Nat), j ≤ c.length ∧ i = .int .i64 j ∧ m = .int .i64 M ∧ M ≤ cs.length + 1 ∧ bestU F u (cs.length + 1) (c.drop j) M = R ∧ Below w1.heap.size w1 wr) (fun _ i _ => c.length - (intOf i).toNat)
      case atStart => exact ⟨0, F u, Nat.zero_le _, rfl, rfl, by omega, HRM.out, Below.refl _ _⟩
      case round =>
        obtain ⟨j, M, hj, rfl, rfl, hM, hbest, hbr⟩ := hrel
        have HBE := Lib.hid hbest
        clear hbest
        by_cases hlt : j < c.length
        · obtain ⟨hc1, hc2⟩ := hkc.out
          have hk4 : c[j] < 4 := hc2 _ (List.getElem_mem hlt)
          have HD := Lib.hid (drop_at c j hlt)
          obtain ⟨_, o2, cap2, e2, _, _, _, hs2⟩ := HR1.out
          cases e2
          obtain ⟨b2, off2, rfl, hbb2, hcc2⟩ := hs2 (by omega)
          have y0 : wr.cell? ⟨b2, off2 + j, none⟩ = some (.int .i64 (c[j] : Int)) := by rw [hbr.cell (p := ⟨b2, off2 + j, none⟩) hbb2, hcc2 j (by omega), intsN_get c j hlt]
          have hbr2 : b2 < wr.heap.size := Nat.lt_of_lt_of_le hbb2 hbr.size
          have HBR := Lib.hid hbr
          clear hs2 hcc2 hc2 hbr
          generalize c[j] = k at *
          have hand := bits_and4 u hu k hk4
          have hor := bits_or4 u hu k hk4
          cases hbit : bitU u k with
          | true =>
            have tb : ¬ bits BinOp.and IntKind.i64 ((u : Int) / 2 ^ k) 1 = 0 := by rw [hand, hbit]; decide
            have ES : Hid (bestU F u (cs.length + 1) (c.drop (j + 1)) M = R) := Lib.hid (by rw [← HBE.out, HD.out, bestU_no (by rw [hbit]; rfl)])
            clear hand hor hbit
            go_wp2_with fail
            go_roundw
            case rel => exact ⟨j + 1, M, by omega, by go_num, rfl, hM, ES.out, HBR.out⟩
            case measure => simp [intOf]; omega
          | false =>
            have tb : bits BinOp.and IntKind.i64 ((u : Int) / 2 ^ k) 1 = 0 := by rw [hand, hbit]; rfl
            clear hand
            by_cases hmn : M < cs.length + 1
            · have tm : decide ((M : Int) < (cs.length : Int) + 1) = true := decide_eq_true (by omega)
              have ES : Hid (bestU F u (cs.length + 1) (c.drop (j + 1)) (max M (1 + F (setU u k))) = R) := Lib.hid (by rw [← HBE.out, HD.out, bestU_yes (by rw [hbit, decide_eq_true hmn]; rfl)])
              have IHX : Hid (∀ (x : World) (n : Int), n = (setU u k : Int) → Calls Try.prog 22 #[.slice (some ⟨b, off + 1, none⟩) cs.length (cap - 1), .int .i64 n] (above wr x) fun e w'' => e = .returned (.int .i64 (F (setU u k))) ∧ Below (above wr x).heap.size (above wr x) w'') := Lib.hid (fun x n hn => hn ▸ IH.out (above wr x) _ (setU u k) ((HT1.out.up HBR.out).up (above_below wr x)) ((HC1.out.up HBR.out HBR.out.size).up (above_below wr x) (above_below wr x).size) (setU_lt u hu k hk4))
              have hFx := HF.out (setU u k)
              go_wp2_with (go_at_call 34; refine (impl_size_L _ _ _ _ (by omega)).mono ?_; rintro e' w' ⟨rfl, rfl⟩)
              refine wp_region_above (by kernel_rfl) (by kernel_rfl) ?_
              repeat (go_big_quiet_step (((go_at_call 22; exact aboveC (IHX.out _ _ rfl)))))
              refine wpQuiet_nil ?_
              intro w2 b2
              have HB2 := Lib.hid (HBR.out.trans (b2.mono HBR.out.size))
              clear b2 hbit
              go_wp2_with fail
              go_roundw
              case rel => exact ⟨j + 1, max M (1 + F (setU u k)), by omega, by go_num, by congr 1; omega, by have := HF.out (setU u k); omega, ES.out, HB2.out⟩
              case measure => simp [intOf]; omega
            · have tm : decide ((M : Int) < (cs.length : Int) + 1) = false := decide_eq_false (by omega)
              have ES : Hid (bestU F u (cs.length + 1) (c.drop (j + 1)) M = R) := Lib.hid (by rw [← HBE.out, HD.out, bestU_no (by rw [hbit, decide_eq_false hmn]; rfl)])
              clear hor hbit
              go_wp2_with (go_at_call 34; refine (impl_size_L _ _ _ _ (by omega)).mono ?_; rintro e' w' ⟨rfl, rfl⟩)
              go_roundw
              case rel => exact ⟨j + 1, M, by omega, by go_num, rfl, hM, ES.out, HBR.out⟩
              case measure => simp [intOf]; omega
        · have ej : c.drop j = [] := List.drop_eq_nil_of_le (by omega)
          have EM : Hid (M = R) := Lib.hid (by have := HBE.out; rw [ej] at this; exact this)
          have HBX := Lib.hid (bnext HB1.out hbr)
          clear hbr ej
          go_wp2_with fail
          go_ret
          exact ⟨by rw [EM.out]; rfl, HBX.out⟩
end Go.Proofs.Ytgjcmfacdnngjaa
