/- Contracts and plain facts, joined: Exist, VMeltI. -/
import Derived.Test.YtnbodmbagendnaaGreatDoorRows
import Derived.Test.YtnbodmbagendnaaGreatDoorZFnMeltsK
import Derived.Test.YtnbodmbagendnaaGreatDoorZFnMeltsO
namespace Go.Proofs.YtnbodmbagendnaaGreatDoor
open Go.ChangeShapes Go.WideShapes Go.ChangeAt Go.RowKit Go.Deep Go.Joins
set_option linter.unusedVariables false
set_option maxRecDepth 100000
set_option linter.unusedSimpArgs false
def noneB (xs : List Ingot) (m : Melt) : Bool := !(chosenL xs m.ingots).isSome
def existB (xs : List Ingot) (ms : List Melt) : Bool := !(ms.any (noneB xs))
set_option maxHeartbeats 1000000 in
theorem impl_exist1 (x : Melt) (lo : Option Addr) (lc : Nat) (g : Nat) (v : Value) (xs : List Ingot) (w : World) (g0 : w.cell? ⟨g, 0, none⟩ = some v) (hg : g < w.heap.size) (h : Rd w.heap.size w v 5 xs.length (xs.flatMap Ingot.put)) (hn : xs.length ≤ 1048576) (hr : Rises xs)
    (h2 : Rd w.heap.size w (.slice lo x.ingots.length lc) 1 x.ingots.length (x.ingots.flatMap putStr)) (hn2 : x.ingots.length ≤ 1048576) :
    Calls Tryz.prog 58 #[.agg #[.string x.id, .slice lo x.ingots.length lc, .int .i64 x.mass], .pointer (some ⟨g, 0, none⟩)] w fun e w' => e = .returned (.bool (noneB xs x)) ∧ Below w.heap.size w w' := by
  unfold noneB
  obtain ⟨vo, vc, rfl⟩ := h.form
  have H1 := Lib.hid h; clear h
  have H2 := Lib.hid h2; clear h2
  have HR := Lib.hid hr; clear hr
  go_enter Tryz.func58, Tryz.ntmps58
  go_wp2_with fail
  refine (impl_choiceOf _ _ xs x lo lc (by exact H1.out.up (by (repeat' (first | (with_reducible exact Below.refl _ _) | (with_reducible assumption) | (with_reducible refine below_dn ?_ _) | (with_reducible refine Below.drew ?_) | (with_reducible refine Below.alloc ?_ ?_ _) | (with_reducible refine Below.setCell ?_ ?_ _) | go_size)))) hn HR.out (by exact H2.out.up (by (repeat' (first | (with_reducible exact Below.refl _ _) | (with_reducible assumption) | (with_reducible refine below_dn ?_ _) | (with_reducible refine Below.drew ?_) | (with_reducible refine Below.alloc ?_ ?_ _) | (with_reducible refine Below.setCell ?_ ?_ _) | go_size)))) hn2).mono ?_; rintro e w1 ⟨⟨u, rfl, _⟩, b1⟩
  have HB1 := Lib.hid (show Below w.heap.size w w1 from Below.trans (by (repeat' (first | (with_reducible exact Below.refl _ _) | (with_reducible assumption) | (with_reducible refine below_dn ?_ _) | (with_reducible refine Below.drew ?_) | (with_reducible refine Below.alloc ?_ ?_ _) | (with_reducible refine Below.setCell ?_ ?_ _) | go_size))) (b1.mono (by simp <;> omega))); clear b1
  cases hS : (chosenL xs x.ingots).isSome
  all_goals
    have HS := Lib.hid hS; clear hS
    go_wp2_with fail
    go_ret
    exact ⟨by rw [HS.out]; rfl, HB1.out⟩

set_option maxHeartbeats 1000000 in
theorem IndexFunc_exist1 (g : Nat) (w : World) (v : Value) (xs : List Melt) (p : Melt → Bool) (h : RdM w.heap.size w v xs) (hn : xs.length ≤ 1048576)
    (H : ∀ (wr : World) (hb : Below w.heap.size w wr) (k : Nat) (hk : k < xs.length) (lo : Option Addr) (lc : Nat) (hr : Rd wr.heap.size wr (.slice lo xs[k].ingots.length lc) 1 xs[k].ingots.length (xs[k].ingots.flatMap putStr)), Calls Tryz.prog 58 #[.agg #[.string xs[k].id, .slice lo xs[k].ingots.length lc, .int .i64 xs[k].mass], .pointer (some ⟨g, 0, none⟩)] wr fun e w' => e = .returned (.bool (p xs[k])) ∧ Below wr.heap.size wr w') :
    Calls Tryz.prog 61 #[v, .func (.func 58) #[] #[.pointer (some ⟨g, 0, none⟩)]] w fun e w' => (∃ r : Int, e = .returned (.int .i64 r) ∧ decide (0 ≤ r) = xs.any p) ∧ Below w.heap.size w w' := by
  obtain ⟨ao, cap, rfl, hcap, hmax, hsome⟩ := h
  go_enter Tryz.func61, Tryz.ntmps61
  have HH := Lib.hid H; clear H
  go_wp2
  go_loopw [8] (fun i wr => ∃ (k : Nat), k ≤ xs.length ∧ i = .int .i64 k ∧ (xs.take k).any p = false ∧ Below w.heap.size w wr) (fun i _ => xs.length - (intOf i).toNat)
  case atStart => exact ⟨0, Nat.zero_le _, rfl, rfl, Below.refl _ _⟩
  case round =>
    obtain ⟨k, hk, rfl, hall, hb⟩ := hrel
    have Hall := Lib.hid hall; clear hall
    by_cases hlt : k < xs.length
    · obtain ⟨b, off, rfl, hbB, hc⟩ := hsome (by omega)
      obtain ⟨l, p0, p1, p2, hr⟩ := hc k hlt
      obtain ⟨lo, lc, rfl⟩ := hr.form
      have c0 := (hb.cell (p := ⟨b, off + k * 3, none⟩) hbB).trans p0
      have c1 := (hb.cell (p := ⟨b, off + k * 3 + 1, none⟩) hbB).trans p1
      have c2 := (hb.cell (p := ⟨b, off + k * 3 + 2, none⟩) hbB).trans p2
      have hbr : b < wr.heap.size := Nat.lt_of_lt_of_le hbB hb.size
      have HC := Lib.hid (HH.out wr hb k hlt lo lc (hr.up hb)); clear HH
      have HB := Lib.hid hb
      clear hc hsome hb p0 p1 p2 hr
      cases hO : p xs[k]
      all_goals rw [hO] at HC
      · have e : Hid ((xs.take (k + 1)).any p = false) := (by rw [any_take xs k hlt, Hall.out, hO]; rfl : (xs.take (k + 1)).any p = false)
        clear hO
        go_wp2_with fail
        go_at_call 58
        refine HC.out.mono ?_; rintro e1 w1 ⟨rfl, b1⟩
        have HB1 := Lib.hid (HB.out.trans (b1.mono HB.out.size)); clear b1 HB
        go_wp2_with fail
        go_roundw
        case rel => exact ⟨k + 1, by omega, by go_num, e.out, HB1.out⟩
        case measure => simp [intOf]; omega
      · have e : Hid (xs.any p = true) := (any_at xs k hlt hO : xs.any p = true)
        clear hO
        go_wp2_with fail
        go_at_call 58
        refine HC.out.mono ?_; rintro e1 w1 ⟨rfl, b1⟩
        have HB1 := Lib.hid (HB.out.trans (b1.mono HB.out.size)); clear b1 HB
        go_wp2_with fail
        go_ret
        exact ⟨⟨_, rfl, by rw [e.out]; simp⟩, HB1.out⟩
    · have e : Hid (xs.any p = false) := (by
        have := Hall.out
        rwa [List.take_of_length_le (by omega)] at this : xs.any p = false)
      clear HH
      go_wp2
      go_ret
      exact ⟨⟨_, rfl, by rw [e.out]; rfl⟩, hb⟩

theorem ContainsFunc_exist1 (g : Nat) (w : World) (v : Value) (xs : List Melt) (p : Melt → Bool) (h : RdM w.heap.size w v xs) (hn : xs.length ≤ 1048576)
    (H : ∀ (wr : World) (hb : Below w.heap.size w wr) (k : Nat) (hk : k < xs.length) (lo : Option Addr) (lc : Nat) (hr : Rd wr.heap.size wr (.slice lo xs[k].ingots.length lc) 1 xs[k].ingots.length (xs[k].ingots.flatMap putStr)), Calls Tryz.prog 58 #[.agg #[.string xs[k].id, .slice lo xs[k].ingots.length lc, .int .i64 xs[k].mass], .pointer (some ⟨g, 0, none⟩)] wr fun e w' => e = .returned (.bool (p xs[k])) ∧ Below wr.heap.size wr w') :
    Calls Tryz.prog 25 #[v, .func (.func 58) #[] #[.pointer (some ⟨g, 0, none⟩)]] w fun e w' => e = .returned (.bool (xs.any p)) ∧ Below w.heap.size w w' := by
  have H2 := Lib.hid (IndexFunc_exist1 g w v xs p h hn H)
  clear h H
  go_enter Tryz.func25, Tryz.ntmps25
  go_wp2_with fail
  refine H2.out.mono ?_; rintro e w1 ⟨⟨r, rfl, hr⟩, b1⟩
  have Hr := Lib.hid hr; clear hr
  go_wp2_with fail
  go_ret
  exact ⟨by rw [← Hr.out]; rfl, b1⟩

set_option maxHeartbeats 1000000 in
theorem impl_exist (w : World) (v u : Value) (xs : List Ingot) (ms : List Melt) (h : Rd w.heap.size w v 5 xs.length (xs.flatMap Ingot.put)) (hn : xs.length ≤ 1048576) (hr : Rises xs) (h2 : RdM w.heap.size w u ms) (hn2 : ms.length ≤ 1048576) (hin : ∀ m ∈ ms, m.ingots.length ≤ 1048576) :
    Calls Tryz.prog 23 #[v, u] w fun e w' => e = .returned (.bool (existB xs ms)) ∧ Below w.heap.size w w' := by
  unfold existB
  have hM := Lib.hid (Own.new w 24 [v])
  obtain ⟨vo, vc, rfl⟩ := h.form
  have H1 := Lib.hid h; clear h
  have H2 := Lib.hid h2
  obtain ⟨uo, uc, rfl, _⟩ := h2
  have HR := Lib.hid hr; clear hr
  have Hin := Lib.hid hin; clear hin
  go_enter Tryz.func23, Tryz.ntmps23
  go_wp2_with fail
  refine (ContainsFunc_exist1 w.heap.size _ _ ms (noneB xs) (by exact H2.out.up (by (repeat' (first | (with_reducible exact Below.refl _ _) | (with_reducible assumption) | (with_reducible refine below_dn ?_ _) | (with_reducible refine Below.drew ?_) | (with_reducible refine Below.alloc ?_ ?_ _) | (with_reducible refine Below.setCell ?_ ?_ _) | go_size)))) hn2 ?_).mono ?_
  · intro wr hb k hk lo lc hr
    have hO := hM.out.below hb hM.out.lt
    exact impl_exist1 ms[k] lo lc _ _ xs wr (hO.cell 0) hO.lt (by exact H1.out.up (Below.trans (by (repeat' (first | (with_reducible exact Below.refl _ _) | (with_reducible assumption) | (with_reducible refine below_dn ?_ _) | (with_reducible refine Below.drew ?_) | (with_reducible refine Below.alloc ?_ ?_ _) | (with_reducible refine Below.setCell ?_ ?_ _) | go_size))) (hb.mono (by simp <;> omega)))) hn HR.out hr (Hin.out _ (List.getElem_mem hk))
  rintro e w1 ⟨rfl, b1⟩
  have HB1 := Lib.hid (show Below w.heap.size w w1 from Below.trans (by (repeat' (first | (with_reducible exact Below.refl _ _) | (with_reducible assumption) | (with_reducible refine below_dn ?_ _) | (with_reducible refine Below.drew ?_) | (with_reducible refine Below.alloc ?_ ?_ _) | (with_reducible refine Below.setCell ?_ ?_ _) | go_size))) (b1.mono (by simp <;> omega))); clear b1
  go_wp2_with fail
  go_ret
  exact ⟨rfl, HB1.out⟩
end Go.Proofs.YtnbodmbagendnaaGreatDoor
namespace Go.Proofs.YtnbodmbagendnaaGreatDoor
open Go.ChangeShapes Go.WideShapes Go.ChangeAt Go.RowKit Go.Deep Go.Joins
set_option linter.unusedVariables false
set_option maxRecDepth 100000
set_option linter.unusedSimpArgs false
set_option maxHeartbeats 1000000 in
theorem impl_areNames (w : World) (v : Value) (xs : List ByteArray) (h : Rd w.heap.size w v 1 xs.length (xs.flatMap putStr)) (hn : xs.length ≤ 1048576) (hok : ∀ s ∈ xs, s.size ≤ maxLen) :
    Calls Tryz.prog 56 #[v] w fun e w' => e = .returned (.bool (allK (stepB nameB ltName xs) xs.length)) ∧ Below w.heap.size w w' := by
  obtain ⟨hL, ao, cap, rfl, hcap, hmax, hnil, hsome⟩ := h
  have Hok := Lib.hid hok; clear hok
  go_enter Tryz.func56, Tryz.ntmps56
  go_wp2
  go_loopw [7] (fun i wr => ∃ (k : Nat), k ≤ xs.length ∧ i = .int .i64 k ∧ allK (stepB nameB ltName xs) k = true ∧ Below w.heap.size w wr) (fun i _ => xs.length - (intOf i).toNat)
  case atStart => exact ⟨0, Nat.zero_le _, rfl, rfl, Below.refl _ _⟩
  case round =>
    obtain ⟨k, hk, rfl, hall, hb⟩ := hrel
    have Hall := Lib.hid hall; clear hall
    by_cases hlt : k < xs.length
    · obtain ⟨b, off, rfl, hbB, hc⟩ := hsome (by omega)
      have c0 : wr.cell? ⟨b, off + k, none⟩ = some (.string xs[k]) := by
        rw [hb.cell (p := ⟨b, off + k, none⟩) hbB, hc k (by omega), putStr_get xs k hlt]
      have hbr : b < wr.heap.size := Nat.lt_of_lt_of_le hbB hb.size
      have hok : xs[k].size ≤ maxLen := Hok.out _ (List.getElem_mem hlt)
      have HK := Lib.hid hok; clear hok
      have HS := Lib.hid (allK_succ (stepB nameB ltName xs) k)
      have HF := Lib.hid (allK_false (stepB nameB ltName xs) xs.length k hlt)
      cases hO : nameB xs[k]
      · have e : Hid (allK (stepB nameB ltName xs) xs.length = false) := (HF.out (stepB_no hlt hO) : allK (stepB nameB ltName xs) xs.length = false)
        have HB := Lib.hid hb
        clear hc hsome hnil hb
        go_wp2_with fail
        refine (impl_IsName_is _ _ HK.out hO).mono ?_; rintro e1 w1 ⟨rfl, b1⟩
        have HB1 := Lib.hid (HB.out.trans (b1.mono HB.out.size)); clear b1 HB
        go_wp2_with fail
        go_ret
        exact ⟨by rw [e.out]; rfl, HB1.out⟩
      by_cases hk0 : k = 0
      · have e : Hid (allK (stepB nameB ltName xs) (k + 1) = true) := (by subst hk0; rw [HS.out, stepB_zero hlt hO]; rfl : allK (stepB nameB ltName xs) (k + 1) = true)
        have hz : decide (0 < k) = false := decide_eq_false (by omega)
        have HB := Lib.hid hb
        clear hc hsome hnil hb hk0
        go_wp2_with fail
        refine (impl_IsName_is _ _ HK.out hO).mono ?_; rintro e1 w1 ⟨rfl, b1⟩
        have HB1 := Lib.hid (HB.out.trans (b1.mono HB.out.size)); clear b1 HB
        go_wp2_with fail
        go_roundw
        case rel => exact ⟨k + 1, by omega, by go_num, e.out, HB1.out⟩
        case measure => simp [intOf]; omega
      · have hpos : 0 < k := by omega
        have hz : decide (0 < k) = true := decide_eq_true (by omega)
        have p0 : wr.cell? ⟨b, off + (k - 1), none⟩ = some (.string xs[k - 1]) := by
          rw [hb.cell (p := ⟨b, off + (k - 1), none⟩) hbB, hc (k - 1) (by omega), putStr_get xs (k - 1) (by omega)]
        cases hT : ltName xs[k - 1] xs[k]
        · have e : Hid (allK (stepB nameB ltName xs) xs.length = false) := (HF.out (stepB_lt hlt hpos hO hT) : allK (stepB nameB ltName xs) xs.length = false)
          have t1 : (Op.bytesLess xs[k].toList xs[k - 1].toList || xs[k].toList == xs[k - 1].toList) = true := ltName_impl_f hT
          have HB := Lib.hid hb
          clear hc hsome hnil hb hT
          go_wp2_with fail
          refine (impl_IsName_is _ _ HK.out hO).mono ?_; rintro e1 w1 ⟨rfl, b1⟩
          have p1 : w1.cell? ⟨b, off + (k - 1), none⟩ = some (.string xs[k - 1]) := (b1.cell (p := ⟨b, off + (k - 1), none⟩) hbr).trans p0
          have HB1 := Lib.hid (HB.out.trans (b1.mono HB.out.size)); clear b1 HB p0 c0
          go_wp2_with fail
          go_ret
          exact ⟨by rw [e.out]; rfl, HB1.out⟩
        · have e : Hid (allK (stepB nameB ltName xs) (k + 1) = true) := (by rw [HS.out, Hall.out, stepB_yes hlt hpos hO hT]; rfl : allK (stepB nameB ltName xs) (k + 1) = true)
          have t1 : (Op.bytesLess xs[k].toList xs[k - 1].toList || xs[k].toList == xs[k - 1].toList) = false := ltName_impl_t hT
          have HB := Lib.hid hb
          clear hc hsome hnil hb hT
          go_wp2_with fail
          refine (impl_IsName_is _ _ HK.out hO).mono ?_; rintro e1 w1 ⟨rfl, b1⟩
          have p1 : w1.cell? ⟨b, off + (k - 1), none⟩ = some (.string xs[k - 1]) := (b1.cell (p := ⟨b, off + (k - 1), none⟩) hbr).trans p0
          have HB1 := Lib.hid (HB.out.trans (b1.mono HB.out.size)); clear b1 HB p0 c0
          go_wp2_with fail
          go_roundw
          case rel => exact ⟨k + 1, by omega, by go_num, e.out, HB1.out⟩
          case measure => simp [intOf]; omega
    · have e : Hid (allK (stepB nameB ltName xs) xs.length = true) := (by
        obtain rfl : k = xs.length := by omega
        exact Hall.out : allK (stepB nameB ltName xs) xs.length = true)
      go_wp2
      go_ret
      exact ⟨by rw [e.out]; rfl, hb⟩

theorem impl_areNames_is {b : Bool} (w : World) (v : Value) (xs : List ByteArray) (h : Rd w.heap.size w v 1 xs.length (xs.flatMap putStr)) (hn : xs.length ≤ 1048576) (hok : ∀ s ∈ xs, s.size ≤ maxLen) (hb : allK (stepB nameB ltName xs) xs.length = b) :
    Calls Tryz.prog 56 #[v] w fun e w' => e = .returned (.bool b) ∧ Below w.heap.size w w' := by
  subst hb; exact impl_areNames w v xs h hn hok

set_option maxHeartbeats 1000000 in
theorem impl_ValidMelt (x : Melt) (w : World) (hx : x.ok w) (hn : x.ingots.length ≤ 1048576) :
    Calls Tryz.prog 22 #[.agg #[.string x.id, x.list, .int .i64 x.mass]] w fun e w' => e = .returned (.bool (meltB x)) ∧ Below w.heap.size w w' := by
  obtain ⟨hi, ⟨hr, hl, hs⟩, _⟩ := hx
  have Hi := Lib.hid hi; clear hi
  have HR := Lib.hid hr
  obtain ⟨hL, ao, cap, hlist, hcap, hmax, hnil, hsome⟩ := hr
  rw [hlist] at HR
  rw [hlist]
  clear hlist hnil hsome
  have Hok := Lib.hid hs; clear hs
  unfold meltB
  cases hN : nameB x.id
  case false =>
    go_enter Tryz.func22, Tryz.ntmps22
    go_wp2_with fail
    refine (impl_IsName_is _ _ Hi.out (by assumption)).mono ?_; rintro e w1 ⟨rfl, b1⟩
    go_wp2_with fail
    go_ret
    exact ⟨rfl, Below.trans (by (repeat' (first | (with_reducible exact Below.refl _ _) | (with_reducible assumption) | (with_reducible refine below_dn ?_ _) | (with_reducible refine Below.drew ?_) | (with_reducible refine Below.alloc ?_ ?_ _) | (with_reducible refine Below.setCell ?_ ?_ _) | go_size))) (b1.mono (by simp))⟩
  by_cases hz1 : 1 ≤ x.ingots.length
  case neg =>
    have t1 : decide ((1 : Int) ≤ x.ingots.length) = false := decide_eq_false (by omega)
    have e0 : Hid (decide (1 ≤ x.ingots.length) = false) := (decide_eq_false hz1 : decide (1 ≤ x.ingots.length) = false)
    go_enter Tryz.func22, Tryz.ntmps22
    go_wp2_with fail
    refine (impl_IsName_is _ _ Hi.out (by assumption)).mono ?_; rintro e w1 ⟨rfl, b1⟩
    obtain ⟨hc, hf⟩ := bcell b1
    go_wp2_with fail
    go_ret
    exact ⟨by rw [e0.out]; rfl, Below.trans (by (repeat' (first | (with_reducible exact Below.refl _ _) | (with_reducible assumption) | (with_reducible refine below_dn ?_ _) | (with_reducible refine Below.drew ?_) | (with_reducible refine Below.alloc ?_ ?_ _) | (with_reducible refine Below.setCell ?_ ?_ _) | go_size))) (b1.mono (by simp))⟩
  by_cases hz2 : x.ingots.length ≤ 16
  case neg =>
    have t2 : decide ((x.ingots.length : Int) ≤ 16) = false := decide_eq_false (by omega)
    have e0 : Hid (decide (x.ingots.length ≤ 16) = false) := (decide_eq_false hz2 : decide (x.ingots.length ≤ 16) = false)
    go_enter Tryz.func22, Tryz.ntmps22
    go_wp2_with fail
    refine (impl_IsName_is _ _ Hi.out (by assumption)).mono ?_; rintro e w1 ⟨rfl, b1⟩
    obtain ⟨hc, hf⟩ := bcell b1
    go_wp2_with fail
    go_ret
    exact ⟨by rw [e0.out]; simp, Below.trans (by (repeat' (first | (with_reducible exact Below.refl _ _) | (with_reducible assumption) | (with_reducible refine below_dn ?_ _) | (with_reducible refine Below.drew ?_) | (with_reducible refine Below.alloc ?_ ?_ _) | (with_reducible refine Below.setCell ?_ ?_ _) | go_size))) (b1.mono (by simp))⟩
  have e1 : Hid (decide (1 ≤ x.ingots.length) = true) := (decide_eq_true hz1 : decide (1 ≤ x.ingots.length) = true)
  have e2 : Hid (decide (x.ingots.length ≤ 16) = true) := (decide_eq_true hz2 : decide (x.ingots.length ≤ 16) = true)
  cases hA : allK (stepB nameB ltName x.ingots) x.ingots.length
  case false =>
    go_enter Tryz.func22, Tryz.ntmps22
    go_wp2_with fail
    refine (impl_IsName_is _ _ Hi.out (by assumption)).mono ?_; rintro e w1 ⟨rfl, b1⟩
    have HB := Lib.hid b1
    obtain ⟨hc, hf⟩ := bcell b1
    go_wp2_with fail
    clear hc hf b1
    refine (impl_areNames_is _ _ x.ingots (by exact HR.out.up (Below.trans (by (repeat' (first | (with_reducible exact Below.refl _ _) | (with_reducible assumption) | (with_reducible refine below_dn ?_ _) | (with_reducible refine Below.drew ?_) | (with_reducible refine Below.alloc ?_ ?_ _) | (with_reducible refine Below.setCell ?_ ?_ _) | go_size))) (HB.out.mono (by simp)))) hn Hok.out hA).mono ?_; rintro e w2 ⟨rfl, b2⟩
    have B2 := bnext HB.out b2; clear b2 HB
    go_wp2_with fail
    go_ret
    exact ⟨by rw [e1.out, e2.out]; rfl, Below.trans (by (repeat' (first | (with_reducible exact Below.refl _ _) | (with_reducible assumption) | (with_reducible refine below_dn ?_ _) | (with_reducible refine Below.drew ?_) | (with_reducible refine Below.alloc ?_ ?_ _) | (with_reducible refine Below.setCell ?_ ?_ _) | go_size))) (B2.mono (by simp))⟩
  cases hM : inB x.mass 1 320000000
  all_goals
    go_enter Tryz.func22, Tryz.ntmps22
    go_wp2_with fail
    refine (impl_IsName_is _ _ Hi.out (by assumption)).mono ?_; rintro e w1 ⟨rfl, b1⟩
    have HB := Lib.hid b1
    obtain ⟨hc, hf⟩ := bcell b1
    go_wp2_with fail
    clear hc hf b1
    refine (impl_areNames_is _ _ x.ingots (by exact HR.out.up (Below.trans (by (repeat' (first | (with_reducible exact Below.refl _ _) | (with_reducible assumption) | (with_reducible refine below_dn ?_ _) | (with_reducible refine Below.drew ?_) | (with_reducible refine Below.alloc ?_ ?_ _) | (with_reducible refine Below.setCell ?_ ?_ _) | go_size))) (HB.out.mono (by simp)))) hn Hok.out hA).mono ?_; rintro e w2 ⟨rfl, b2⟩
    have B2 := bnext HB.out b2; clear b2 HB
    have HB2 := Lib.hid B2
    obtain ⟨hc, hf⟩ := bcell B2
    clear B2
    go_wp2_with (go_at_call 57; refine (within_is _ _ _ _ (by assumption)).mono ?_; rintro e w' ⟨rfl, rfl⟩)
    go_ret
    exact ⟨by rw [e1.out, e2.out]; rfl, Below.trans (by (repeat' (first | (with_reducible exact Below.refl _ _) | (with_reducible assumption) | (with_reducible refine below_dn ?_ _) | (with_reducible refine Below.drew ?_) | (with_reducible refine Below.alloc ?_ ?_ _) | (with_reducible refine Below.setCell ?_ ?_ _) | go_size))) (HB2.out.mono (by simp))⟩

theorem impl_ValidMelt_is {b : Bool} (x : Melt) (w : World) (hx : x.ok w) (hn : x.ingots.length ≤ 1048576) (hb : meltB x = b) :
    Calls Tryz.prog 22 #[.agg #[.string x.id, x.list, .int .i64 x.mass]] w fun e w' => e = .returned (.bool b) ∧ Below w.heap.size w w' := by
  subst hb; exact impl_ValidMelt x w hx hn
end Go.Proofs.YtnbodmbagendnaaGreatDoor
