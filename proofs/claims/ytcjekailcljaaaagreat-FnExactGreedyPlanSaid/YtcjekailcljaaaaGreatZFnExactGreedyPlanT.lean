/- Contracts and plain facts, joined: CutB. -/
import Derived.Test.YtcjekailcljaaaaGreatRows
import Derived.Test.YtcjekailcljaaaaGreatZFnExactGreedyPlanG
import Derived.Test.YtcjekailcljaaaaGreatZFnExactGreedyPlanL
import Derived.Test.YtcjekailcljaaaaGreatZFnExactGreedyPlanR
namespace Go.Proofs.YtcjekailcljaaaaGreat
open Go.ChangeShapes Go.WideShapes Go.ChangeAt Go.RowKit Go.Deep Go.Joins
set_option linter.unusedVariables false
set_option maxRecDepth 100000
set_option linter.unusedSimpArgs false
def cutOk (c : Cut) : Bool := inB c.zone 0 7 && inB c.steps 1 20
def cutsB (cs : List Cut) : Bool := decide (cs.length ≤ 64) && cs.all cutOk
theorem cutsB_parts {cs : List Cut} (h : cutsB cs = true) : cs.length ≤ 64 ∧ ∀ c ∈ cs, (0 ≤ c.zone ∧ c.zone ≤ 7) ∧ (1 ≤ c.steps ∧ c.steps ≤ 20) := by
  simp only [cutsB, Bool.and_eq_true, decide_eq_true_eq] at h
  refine ⟨h.1, fun c hc => ?_⟩
  have := List.all_eq_true.1 h.2 c hc
  simp only [cutOk, Bool.and_eq_true] at this
  exact ⟨inB_true this.1, inB_true this.2⟩
theorem cut_at {cs : List Cut} {k : Nat} (hk : k < cs.length) (h : cutOk cs[k] = false) : cutsB cs = false := by
  unfold cutsB
  have : cs.all cutOk = false := by
    cases ha : cs.all cutOk with
    | false => rfl
    | true => have := List.all_eq_true.1 ha cs[k] (List.getElem_mem hk); rw [h] at this; cases this
  rw [this, Bool.and_false]
theorem cut_take {cs : List Cut} {k : Nat} (hk : k < cs.length) (h : (cs.take k).all cutOk = true) (hc : cutOk cs[k] = true) : (cs.take (k + 1)).all cutOk = true := by
  rw [List.take_succ_eq_append_getElem hk, List.all_append, h]; simp [hc]
def addAt (s : List Int) (z : Nat) (n : Int) : List Int := s.set z (s.getD z 0 + n)
def sumsK (cs : List Cut) : Nat → List Int
  | 0 => List.replicate 8 0
  | k + 1 => match cs[k]? with
    | some c => addAt (sumsK cs k) c.zone.toNat c.steps
    | none => sumsK cs k
def sumsS (cs : List Cut) : List Int := sumsK cs cs.length
theorem sumsK_succ {cs : List Cut} {k : Nat} (h : k < cs.length) : sumsK cs (k + 1) = addAt (sumsK cs k) cs[k].zone.toNat cs[k].steps := by
  show (match cs[k]? with
    | some c => addAt (sumsK cs k) c.zone.toNat c.steps
    | none => sumsK cs k) = _
  rw [List.getElem?_eq_getElem h]
theorem sumsK_len (cs : List Cut) : ∀ k, (sumsK cs k).length = 8
  | 0 => by simp [sumsK]
  | k + 1 => by
    have ih := sumsK_len cs k
    show (match cs[k]? with
      | some c => addAt (sumsK cs k) c.zone.toNat c.steps
      | none => sumsK cs k).length = 8
    split
    · rw [addAt, List.length_set]; exact ih
    · exact ih
theorem sumsK_bd {cs : List Cut} (h : ∀ c ∈ cs, (0 ≤ c.zone ∧ c.zone ≤ 7) ∧ (1 ≤ c.steps ∧ c.steps ≤ 20)) : ∀ k, k ≤ cs.length → ∀ x ∈ sumsK cs k, 0 ≤ x ∧ x ≤ 20 * k
  | 0, _ => fun x hx => by
    have := List.eq_of_mem_replicate hx
    omega
  | k + 1, hk => fun x hx => by
    have ih := sumsK_bd h k (by omega)
    rw [sumsK_succ (by omega)] at hx
    have hc := h cs[k] (List.getElem_mem (by omega))
    rcases List.mem_or_eq_of_mem_set hx with q | q
    · have := ih x q; omega
    · have hz : cs[k].zone.toNat < (sumsK cs k).length := by rw [sumsK_len]; omega
      have h2 := ih _ (List.getElem_mem hz)
      rw [List.getD_eq_getElem?_getD, List.getElem?_eq_getElem hz] at q
      simp only [Option.getD_some] at q
      omega
theorem sumsS_len (cs : List Cut) : (sumsS cs).length = 8 := sumsK_len cs _
theorem sumsS_bd {cs : List Cut} (h : cutsB cs = true) : ∀ x ∈ sumsS cs, 0 ≤ x ∧ x ≤ 1280 := fun x hx => by
  obtain ⟨h64, hc⟩ := cutsB_parts h
  have := sumsK_bd hc cs.length (Nat.le_refl _) x hx
  omega
theorem set_putI (s : List Int) (x : Int) : ∀ z, z < s.length → (s.flatMap putI).set z (.int .i64 x) = (s.set z x).flatMap putI := by
  induction s with
  | nil => intro z h; simp at h
  | cons y ys ih =>
    intro z h
    cases z with
    | zero => rfl
    | succ z =>
      show ((.int .i64 y) :: (ys.flatMap putI)).set (z + 1) (.int .i64 x) = (y :: ys.set z x).flatMap putI
      rw [List.set_cons_succ, ih z (by simpa using h)]
      rfl
def fitsB (s : List Int) : Bool := s.all fun x => decide (x ≤ 20)
theorem fits_max {s : List Int} (hne : s ≠ []) : fitsB s = decide (maxL s ≤ 20) := by
  rw [Bool.eq_iff_iff]
  simp only [fitsB, List.all_eq_true, decide_eq_true_eq]
  constructor
  · intro h; exact h _ (maxL_mem hne)
  · intro h x hx; have := maxL_ge x hx; omega
theorem fits_no {s : List Int} {k : Nat} (hk : k < s.length) (h : 20 < s[k]) : fitsB s = false := by
  cases hf : fitsB s with
  | false => rfl
  | true =>
    have := List.all_eq_true.1 hf s[k] (List.getElem_mem hk)
    simp only [decide_eq_true_eq] at this; omega
theorem fits_take {s : List Int} {k : Nat} (hk : k < s.length) (h : fitsB (s.take k) = true) (h2 : s[k] ≤ 20) : fitsB (s.take (k + 1)) = true := by
  unfold fitsB at *
  rw [List.take_succ_eq_append_getElem hk, List.all_append, h]; simp [h2]
set_option maxHeartbeats 1000000 in
theorem spec_l09Cuts (w : World) (v : Value) (cs : List Cut) (h : Rd w.heap.size w v 2 cs.length (cs.flatMap Cut.put)) (hn : cs.length ≤ 1048576) :
    Calls Tryz.prog 30 #[v] w fun e w' => e = .returned (.bool (cutsB cs)) ∧ Below w.heap.size w w' := by
  obtain ⟨hL, ao, cap, rfl, hcap, hmax, hnil, hsome⟩ := h
  go_enter Tryz.func30, Tryz.ntmps30
  go_wp2
  go_loopw [3] (fun i wr => ∃ (k : Nat), k ≤ cs.length ∧ i = .int .i64 k ∧ (cs.take k).all cutOk = true ∧ Below w.heap.size w wr) (fun i _ => cs.length - (intOf i).toNat)
  case atStart => exact ⟨0, Nat.zero_le _, rfl, rfl, Below.refl _ _⟩
  case round =>
    obtain ⟨k, hk, rfl, hall, hb⟩ := hrel
    have Hall := Lib.hid hall; clear hall
    have HB := Lib.hid hb
    by_cases hlt : k < cs.length
    · obtain ⟨b, off, rfl, hbB, hc⟩ := hsome (by omega)
      have c0 : wr.cell? ⟨b, off + k * 2, none⟩ = some (.int .i64 cs[k].zone) := by rw [show off + k * 2 = off + (k * 2 + 0) from by omega, hb.cell (p := ⟨b, off + (k * 2 + 0), none⟩) hbB, hc (k * 2 + 0) (by omega), Cut_get0 cs k hlt]
      have c1 : wr.cell? ⟨b, off + k * 2 + 1, none⟩ = some (.int .i64 cs[k].steps) := by rw [show off + k * 2 + 1 = off + (k * 2 + 1) from by omega, hb.cell (p := ⟨b, off + (k * 2 + 1), none⟩) hbB, hc (k * 2 + 1) (by omega), Cut_get1 cs k hlt]
      have hbr : b < wr.heap.size := Nat.lt_of_lt_of_le hbB hb.size
      have HT := Lib.hid (fun (h : cutOk cs[k] = true) => cut_take hlt Hall.out h)
      have HF := Lib.hid (fun (h : cutOk cs[k] = false) => cut_at hlt h)
      clear hc hsome hnil hb
      cases hz : inB cs[k].zone 0 7
      · have e : Hid (cutsB cs = false) := Lib.hid (HF.out (by unfold cutOk; rw [hz]; rfl))
        have HZ := Lib.hid (fun w' => l00In_is cs[k].zone 0 7 w' hz); clear hz HT HF
        generalize cs[k].zone = zz at *
        generalize cs[k].steps = ss at *
        go_wp2_with fail
        refine (HZ.out _).mono ?_; rintro e1 w2 ⟨rfl, rfl⟩
        go_wp2_with fail
        go_ret
        exact ⟨by rw [e.out]; rfl, HB.out⟩
      cases hs : inB cs[k].steps 1 20
      · have e : Hid (cutsB cs = false) := Lib.hid (HF.out (by unfold cutOk; rw [hz, hs]; rfl))
        have HZ := Lib.hid (fun w' => l00In_is cs[k].zone 0 7 w' hz)
        have HS := Lib.hid (fun w' => l00In_is cs[k].steps 1 20 w' hs)
        clear hz hs HT HF
        generalize cs[k].zone = zz at *
        generalize cs[k].steps = ss at *
        go_wp2_with fail
        refine (HZ.out _).mono ?_; rintro e1 w2 ⟨rfl, rfl⟩
        go_wp2_with fail
        refine (HS.out _).mono ?_; rintro e1 w2 ⟨rfl, rfl⟩
        go_wp2_with fail
        go_ret
        exact ⟨by rw [e.out]; rfl, HB.out⟩
      · have e : Hid ((cs.take (k + 1)).all cutOk = true) := Lib.hid (HT.out (by unfold cutOk; rw [hz, hs]; rfl))
        have HZ := Lib.hid (fun w' => l00In_is cs[k].zone 0 7 w' hz)
        have HS := Lib.hid (fun w' => l00In_is cs[k].steps 1 20 w' hs)
        clear hz hs HT HF
        generalize cs[k].zone = zz at *
        generalize cs[k].steps = ss at *
        go_wp2_with fail
        refine (HZ.out _).mono ?_; rintro e1 w2 ⟨rfl, rfl⟩
        go_wp2_with fail
        refine (HS.out _).mono ?_; rintro e1 w2 ⟨rfl, rfl⟩
        go_wp2_with fail
        go_roundw
        case rel => exact ⟨k + 1, by omega, by go_num, e.out, HB.out⟩
        case measure => simp [intOf]; omega
    · obtain rfl : k = cs.length := by omega
      have e : Hid (cutsB cs = decide (cs.length ≤ 64)) := Lib.hid (by
        have := Hall.out
        rw [List.take_of_length_le (Nat.le_refl _)] at this
        unfold cutsB; rw [this, Bool.and_true])
      clear hsome hnil hb
      by_cases h64 : cs.length ≤ 64
      · have t1 : decide ((cs.length : Int) ≤ 64) = true := decide_eq_true (by omega)
        go_wp2_with fail
        go_ret
        exact ⟨by rw [e.out, decide_eq_true h64]; rfl, HB.out⟩
      · have t1 : decide ((cs.length : Int) ≤ 64) = false := decide_eq_false (by omega)
        go_wp2_with fail
        go_ret
        exact ⟨by rw [e.out, decide_eq_false h64]; rfl, HB.out⟩
theorem impl_VC1 (c : Cut) (w : World) : Calls Tryz.prog 73 #[.agg #[.int .i64 c.zone, .int .i64 c.steps]] w fun e w' => e = .returned (.bool (!cutOk c)) ∧ Below w.heap.size w w' := by
  have HI := Lib.hid (fun w' => within c.zone 0 7 w')
  have HJ := Lib.hid (fun w' => within c.steps 1 20 w')
  have B0 : Hid (Below w.heap.size w (w.alloc (.cells #[.int .i64 c.zone, .int .i64 c.steps] 80))) := Lib.hid ((Below.refl _ _).alloc (Nat.le_refl _) _)
  have e : Hid ((!cutOk c) = (!inB c.zone 0 7 || !inB c.steps 1 20)) := Lib.hid (by unfold cutOk; rw [Bool.not_and])
  rw [e.out]
  cases hz : inB c.zone 0 7
  · rw [hz] at HI
    clear hz
    go_enter Tryz.func73, Tryz.ntmps73
    go_wp2_with fail
    refine (HI.out _).mono ?_; rintro e1 w1 ⟨rfl, rfl⟩
    go_wp2_with fail
    go_ret
    exact ⟨rfl, B0.out⟩
  · rw [hz] at HI
    clear hz
    go_enter Tryz.func73, Tryz.ntmps73
    go_wp2_with fail
    refine (HI.out _).mono ?_; rintro e1 w1 ⟨rfl, rfl⟩
    go_wp2_with fail
    refine (HJ.out _).mono ?_; rintro e1 w1 ⟨rfl, rfl⟩
    go_wp2_with fail
    go_ret
    exact ⟨rfl, B0.out⟩

set_option maxHeartbeats 1000000 in
theorem IndexFunc_VC (w : World) (v : Value) (xs : List Cut) (p : Cut → Bool) (h : Rd w.heap.size w v 2 xs.length (xs.flatMap Cut.put)) (hn : xs.length ≤ 1048576)
    (H : ∀ (wr : World) (hb : Below w.heap.size w wr) (k : Nat) (hk : k < xs.length), Calls Tryz.prog 73 #[.agg #[.int .i64 xs[k].zone, .int .i64 xs[k].steps]] wr fun e w' => e = .returned (.bool (p xs[k])) ∧ Below wr.heap.size wr w') :
    Calls Tryz.prog 106 #[v, .func (.func 73) #[] #[]] w fun e w' => (∃ r : Int, e = .returned (.int .i64 r) ∧ decide (0 ≤ r) = xs.any p) ∧ Below w.heap.size w w' := by
  obtain ⟨hL, ao, cap, rfl, hcap, hmax, hnil, hsome⟩ := h
  go_enter Tryz.func106, Tryz.ntmps106
  have HH := Lib.hid H; clear H
  go_wp2
  go_loopw [8] (fun i wr => ∃ (k : Nat), k ≤ xs.length ∧ i = .int .i64 k ∧ (xs.take k).any p = false ∧ Below w.heap.size w wr) (fun i _ => xs.length - (intOf i).toNat)
  case atStart => exact ⟨0, Nat.zero_le _, rfl, rfl, Below.refl _ _⟩
  case round =>
    obtain ⟨k, hk, rfl, hall, hb⟩ := hrel
    have Hall := Lib.hid hall; clear hall
    by_cases hlt : k < xs.length
    · obtain ⟨b, off, rfl, hbB, hc⟩ := hsome (by omega)
      have c0 : wr.cell? ⟨b, off + k * 2, none⟩ = some (.int .i64 xs[k].zone) := by rw [show off + k * 2 = off + (k * 2 + 0) from by omega, hb.cell (p := ⟨b, off + (k * 2 + 0), none⟩) hbB, hc (k * 2 + 0) (by omega), Cut_get0 xs k hlt]
      have c1 : wr.cell? ⟨b, off + k * 2 + 1, none⟩ = some (.int .i64 xs[k].steps) := by rw [show off + k * 2 + 1 = off + (k * 2 + 1) from by omega, hb.cell (p := ⟨b, off + (k * 2 + 1), none⟩) hbB, hc (k * 2 + 1) (by omega), Cut_get1 xs k hlt]
      have hbr : b < wr.heap.size := Nat.lt_of_lt_of_le hbB hb.size
      have HC := Lib.hid (HH.out wr hb k hlt); clear HH
      have HB := Lib.hid hb
      clear hc hsome hnil hb
      cases hO : p xs[k]
      all_goals rw [hO] at HC
      · have e : Hid ((xs.take (k + 1)).any p = false) := (by rw [any_take xs k hlt, Hall.out, hO]; rfl : (xs.take (k + 1)).any p = false)
        clear hO
        go_wp2_with fail
        go_at_call 73
        refine HC.out.mono ?_; rintro e1 w1 ⟨rfl, b1⟩
        have HB1 := Lib.hid (HB.out.trans (b1.mono HB.out.size)); clear b1 HB
        go_wp2_with fail
        go_roundw
        case rel => exact ⟨k + 1, by omega, by go_num, e.out, HB1.out⟩
        case measure => simp [intOf]; omega
      · have e : Hid (xs.any p = true) := (any_at xs k hlt hO : xs.any p = true)
        clear hO
        go_wp2_with fail
        go_at_call 73
        refine HC.out.mono ?_; rintro e1 w1 ⟨rfl, b1⟩
        have HB1 := Lib.hid (HB.out.trans (b1.mono HB.out.size)); clear b1 HB
        go_wp2_with fail
        go_ret
        exact ⟨⟨_, rfl, by rw [e.out]; simp⟩, HB1.out⟩
    · have e : Hid (xs.any p = false) := (by
        have := Hall.out
        rwa [List.take_of_length_le (by omega)] at this : xs.any p = false)
      clear HH
      go_wp2
      go_ret
      exact ⟨⟨_, rfl, by rw [e.out]; rfl⟩, hb⟩
theorem ContainsFunc_VC (w : World) (v : Value) (xs : List Cut) (p : Cut → Bool) (h : Rd w.heap.size w v 2 xs.length (xs.flatMap Cut.put)) (hn : xs.length ≤ 1048576)
    (H : ∀ (wr : World) (hb : Below w.heap.size w wr) (k : Nat) (hk : k < xs.length), Calls Tryz.prog 73 #[.agg #[.int .i64 xs[k].zone, .int .i64 xs[k].steps]] wr fun e w' => e = .returned (.bool (p xs[k])) ∧ Below wr.heap.size wr w') :
    Calls Tryz.prog 72 #[v, .func (.func 73) #[] #[]] w fun e w' => e = .returned (.bool (xs.any p)) ∧ Below w.heap.size w w' := by
  have H2 := Lib.hid (IndexFunc_VC w v xs p h hn H)
  clear h H
  go_enter Tryz.func72, Tryz.ntmps72
  go_wp2_with fail
  refine H2.out.mono ?_; rintro e w1 ⟨⟨r, rfl, hr⟩, b1⟩
  have Hr := Lib.hid hr; clear hr
  go_wp2_with fail
  go_ret
  exact ⟨by rw [← Hr.out]; rfl, b1⟩

set_option maxHeartbeats 1000000 in
theorem IndexFunc_AC (zp : Nat) (w : World) (v : Value) (xs : List Cut) (p : Cut → Bool) (h : Rd w.heap.size w v 2 xs.length (xs.flatMap Cut.put)) (hn : xs.length ≤ 1048576)
    (H : ∀ (wr : World) (hb : Below w.heap.size w wr) (k : Nat) (hk : k < xs.length), Calls Tryz.prog 79 #[.agg #[.int .i64 xs[k].zone, .int .i64 xs[k].steps], .pointer (some ⟨zp, 0, none⟩)] wr fun e w' => e = .returned (.bool (p xs[k])) ∧ Below wr.heap.size wr w') :
    Calls Tryz.prog 106 #[v, .func (.func 79) #[] #[.pointer (some ⟨zp, 0, none⟩)]] w fun e w' => (∃ r : Int, e = .returned (.int .i64 r) ∧ decide (0 ≤ r) = xs.any p) ∧ Below w.heap.size w w' := by
  obtain ⟨hL, ao, cap, rfl, hcap, hmax, hnil, hsome⟩ := h
  go_enter Tryz.func106, Tryz.ntmps106
  have HH := Lib.hid H; clear H
  go_wp2
  go_loopw [8] (fun i wr => ∃ (k : Nat), k ≤ xs.length ∧ i = .int .i64 k ∧ (xs.take k).any p = false ∧ Below w.heap.size w wr) (fun i _ => xs.length - (intOf i).toNat)
  case atStart => exact ⟨0, Nat.zero_le _, rfl, rfl, Below.refl _ _⟩
  case round =>
    obtain ⟨k, hk, rfl, hall, hb⟩ := hrel
    have Hall := Lib.hid hall; clear hall
    by_cases hlt : k < xs.length
    · obtain ⟨b, off, rfl, hbB, hc⟩ := hsome (by omega)
      have c0 : wr.cell? ⟨b, off + k * 2, none⟩ = some (.int .i64 xs[k].zone) := by rw [show off + k * 2 = off + (k * 2 + 0) from by omega, hb.cell (p := ⟨b, off + (k * 2 + 0), none⟩) hbB, hc (k * 2 + 0) (by omega), Cut_get0 xs k hlt]
      have c1 : wr.cell? ⟨b, off + k * 2 + 1, none⟩ = some (.int .i64 xs[k].steps) := by rw [show off + k * 2 + 1 = off + (k * 2 + 1) from by omega, hb.cell (p := ⟨b, off + (k * 2 + 1), none⟩) hbB, hc (k * 2 + 1) (by omega), Cut_get1 xs k hlt]
      have hbr : b < wr.heap.size := Nat.lt_of_lt_of_le hbB hb.size
      have HC := Lib.hid (HH.out wr hb k hlt); clear HH
      have HB := Lib.hid hb
      clear hc hsome hnil hb
      cases hO : p xs[k]
      all_goals rw [hO] at HC
      · have e : Hid ((xs.take (k + 1)).any p = false) := (by rw [any_take xs k hlt, Hall.out, hO]; rfl : (xs.take (k + 1)).any p = false)
        clear hO
        go_wp2_with fail
        go_at_call 79
        refine HC.out.mono ?_; rintro e1 w1 ⟨rfl, b1⟩
        have HB1 := Lib.hid (HB.out.trans (b1.mono HB.out.size)); clear b1 HB
        go_wp2_with fail
        go_roundw
        case rel => exact ⟨k + 1, by omega, by go_num, e.out, HB1.out⟩
        case measure => simp [intOf]; omega
      · have e : Hid (xs.any p = true) := (any_at xs k hlt hO : xs.any p = true)
        clear hO
        go_wp2_with fail
        go_at_call 79
        refine HC.out.mono ?_; rintro e1 w1 ⟨rfl, b1⟩
        have HB1 := Lib.hid (HB.out.trans (b1.mono HB.out.size)); clear b1 HB
        go_wp2_with fail
        go_ret
        exact ⟨⟨_, rfl, by rw [e.out]; simp⟩, HB1.out⟩
    · have e : Hid (xs.any p = false) := (by
        have := Hall.out
        rwa [List.take_of_length_le (by omega)] at this : xs.any p = false)
      clear HH
      go_wp2
      go_ret
      exact ⟨⟨_, rfl, by rw [e.out]; rfl⟩, hb⟩
theorem ContainsFunc_AC (zp : Nat) (w : World) (v : Value) (xs : List Cut) (p : Cut → Bool) (h : Rd w.heap.size w v 2 xs.length (xs.flatMap Cut.put)) (hn : xs.length ≤ 1048576)
    (H : ∀ (wr : World) (hb : Below w.heap.size w wr) (k : Nat) (hk : k < xs.length), Calls Tryz.prog 79 #[.agg #[.int .i64 xs[k].zone, .int .i64 xs[k].steps], .pointer (some ⟨zp, 0, none⟩)] wr fun e w' => e = .returned (.bool (p xs[k])) ∧ Below wr.heap.size wr w') :
    Calls Tryz.prog 72 #[v, .func (.func 79) #[] #[.pointer (some ⟨zp, 0, none⟩)]] w fun e w' => e = .returned (.bool (xs.any p)) ∧ Below w.heap.size w w' := by
  have H2 := Lib.hid (IndexFunc_AC zp w v xs p h hn H)
  clear h H
  go_enter Tryz.func72, Tryz.ntmps72
  go_wp2_with fail
  refine H2.out.mono ?_; rintro e w1 ⟨⟨r, rfl, hr⟩, b1⟩
  have Hr := Lib.hid hr; clear hr
  go_wp2_with fail
  go_ret
  exact ⟨by rw [← Hr.out]; rfl, b1⟩

theorem any_cut (cs : List Cut) : cs.any (fun c => !cutOk c) = !cs.all cutOk := by
  induction cs with
  | nil => rfl
  | cons x xs ih => simp only [List.any_cons, List.all_cons, ih, Bool.not_and]
theorem impl_ValidCuts (w : World) (ao : Option Addr) (cap : Nat) (cs : List Cut) (h : Rd w.heap.size w (.slice ao cs.length cap) 2 cs.length (cs.flatMap Cut.put)) (hn : cs.length ≤ 1048576) :
    Calls Tryz.prog 39 #[.slice ao cs.length cap] w fun e w' => e = .returned (.bool (cutsB cs)) ∧ Below w.heap.size w w' := by
  by_cases h64 : cs.length ≤ 64
  · have e : Hid (cutsB cs = cs.all cutOk) := Lib.hid (by unfold cutsB; rw [decide_eq_true h64, Bool.true_and])
    have HC := Lib.hid (ContainsFunc_VC w _ cs (fun c => !cutOk c) h hn (fun wr _ k hk => impl_VC1 cs[k] wr))
    rw [any_cut] at HC
    have t1 : decide ((cs.length : Int) ≤ 64) = true := decide_eq_true (by omega)
    clear h
    generalize cs.all cutOk = R at *
    go_enter Tryz.func39, Tryz.ntmps39
    go_wp2_with fail
    refine HC.out.mono ?_; rintro e1 w1 ⟨rfl, b1⟩
    go_wp2_with fail
    go_ret
    exact ⟨by rw [e.out]; rfl, b1⟩
  · have e : Hid (cutsB cs = false) := Lib.hid (by unfold cutsB; rw [decide_eq_false h64, Bool.false_and])
    have t1 : decide ((cs.length : Int) ≤ 64) = false := decide_eq_false (by omega)
    clear h
    go_enter Tryz.func39, Tryz.ntmps39
    go_wp2_with fail
    go_ret
    exact ⟨by rw [e.out]; rfl, Below.refl _ _⟩
/-- zones that a cut may name -/
theorem impl_AC1 (c : Cut) (zp : Nat) (zo : Option Addr) (zc n : Nat) (w : World) (hz : w.cell? ⟨zp, 0, none⟩ = some (.slice zo n zc)) (hl : zp < w.heap.size) (hn : n ≤ 1048576) :
    Calls Tryz.prog 79 #[.agg #[.int .i64 c.zone, .int .i64 c.steps], .pointer (some ⟨zp, 0, none⟩)] w fun e w' => e = .returned (.bool (decide ((n : Int) ≤ c.zone))) ∧ Below w.heap.size w w' := by
  have B0 : Hid (Below w.heap.size w (w.alloc (.cells #[.int .i64 c.zone, .int .i64 c.steps] 80))) := Lib.hid ((Below.refl _ _).alloc (Nat.le_refl _) _)
  have hz1 : (w.alloc (.cells #[.int .i64 c.zone, .int .i64 c.steps] 80)).cell? ⟨zp, 0, none⟩ = some (.slice zo n zc) := (B0.out.cell (p := ⟨zp, 0, none⟩) hl).trans hz
  have hx0 : (w.alloc (.cells #[.int .i64 c.zone, .int .i64 c.steps] 80)).cell? ⟨w.heap.size, 0, none⟩ = some (.int .i64 c.zone) := (Own.new w 80 [.int .i64 c.zone, .int .i64 c.steps]).cell 0
  have hl1 : zp < (w.alloc (.cells #[.int .i64 c.zone, .int .i64 c.steps] 80)).heap.size := Nat.lt_of_lt_of_le hl B0.out.size
  have hw : w.heap.size < (w.alloc (.cells #[.int .i64 c.zone, .int .i64 c.steps] 80)).heap.size := by simp
  go_enter Tryz.func79, Tryz.ntmps79
  go_wp2_with fail
  generalize (w.alloc (.cells #[.int .i64 c.zone, .int .i64 c.steps] 80)) = W at *
  refine wp_region_above (by kernel_rfl) (by kernel_rfl) ?_
  repeat (go_big_quiet_step (((go_at_call 80; exact aboveE (impl_sizeI _ zo n zc hn)))))
  refine wpQuiet_nil ?_
  intro w1 b1
  have B1 := Lib.hid (B0.out.trans (b1.mono B0.out.size))
  clear b1
  go_wp2_with fail
  go_ret
  exact ⟨rfl, B1.out⟩
end Go.Proofs.YtcjekailcljaaaaGreat
