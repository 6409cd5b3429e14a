/- Contracts and plain facts, joined: ZonesB. -/
import Derived.Test.YtcjekailcljaaaaGreatRows
import Derived.Test.YtcjekailcljaaaaGreatZFnExactGreedyPlanF
namespace Go.Proofs.YtcjekailcljaaaaGreat
open Go.ChangeShapes Go.WideShapes Go.ChangeAt Go.RowKit Go.Deep Go.Joins
set_option linter.unusedVariables false
set_option maxRecDepth 100000
set_option linter.unusedSimpArgs false
def zonesB (n : Int) (zs : List Int) : Bool := decide (1 ≤ zs.length) && (decide (zs.length ≤ 8) && (decide (zs[0]? = some 0) && riseG 0 (n - 1) zs))
def belowB (n : Int) (z : Int) : Bool := decide (z < n)
def areaZ (n : Int) (zs : List Int) : Bool := allK (stepB (belowB n) ltI zs) zs.length
theorem zonesB_parts {n : Int} {zs : List Int} (h : zonesB n zs = true) : (1 ≤ zs.length ∧ zs.length ≤ 8) ∧ zs[0]? = some 0 ∧ riseG 0 (n - 1) zs = true := by
  simp only [zonesB, Bool.and_eq_true, decide_eq_true_eq] at h
  exact ⟨⟨h.1, h.2.1⟩, h.2.2.1, h.2.2.2⟩
theorem zonesB_no0 {n : Int} {zs : List Int} (h : ¬ 1 ≤ zs.length) : zonesB n zs = false := by unfold zonesB; rw [decide_eq_false h]; rfl
theorem zonesB_no8 {n : Int} {zs : List Int} (h : ¬ zs.length ≤ 8) : zonesB n zs = false := by unfold zonesB; rw [decide_eq_false h]; simp
theorem zonesB_noz {n : Int} {zs : List Int} (h : 0 < zs.length) (hz : zs[0] ≠ 0) : zonesB n zs = false := by
  unfold zonesB
  rw [decide_eq_false (p := zs[0]? = some 0) (by rw [List.getElem?_eq_getElem h]; exact fun q => hz (Option.some.inj q))]
  simp
theorem zonesB_of {n : Int} {zs : List Int} (h1 : 1 ≤ zs.length) (h8 : zs.length ≤ 8) (hz : zs[0] = 0) : zonesB n zs = riseG 0 (n - 1) zs := by
  unfold zonesB
  rw [decide_eq_true h1, decide_eq_true h8, decide_eq_true (p := zs[0]? = some 0) (by rw [List.getElem?_eq_getElem (by omega), hz])]
  rfl
theorem areaZ_no {n : Int} {zs : List Int} (h : areaZ n zs = false) : zonesB n zs = false := by
  cases hz : zonesB n zs with
  | false => rfl
  | true =>
    obtain ⟨_, _, hr⟩ := zonesB_parts hz
    have : areaZ n zs = true := allK_intro fun k hk => by
      obtain ⟨h1, h2⟩ := stepB_parts hk (allK_true hr k hk)
      have h3 : belowB n zs[k] = true := decide_eq_true (by have := inB_true h1; omega)
      by_cases hp : 0 < k
      · exact stepB_yes hk hp h3 (h2 hp)
      · exact stepB_k0 hk (by omega) h3
    rw [this] at h; cases h
theorem areaZ_yes {n : Int} {zs : List Int} (h : areaZ n zs = true) (hl : 0 < zs.length) (hz : zs[0] = 0) : riseG 0 (n - 1) zs = true := by
  have key : ∀ k (hk : k < zs.length), 0 ≤ zs[k] := by
    intro k
    induction k with
    | zero => intro hk; rw [hz]; exact Int.le_refl _
    | succ k ih =>
      intro hk
      have := (stepB_parts hk (allK_true h (k + 1) hk)).2 (by omega)
      have h2 : zs[k + 1 - 1] < zs[k + 1] := of_decide_eq_true this
      have h3 := ih (by omega)
      simp only [Nat.add_sub_cancel] at h2
      omega
  refine allK_intro fun k hk => ?_
  obtain ⟨h1, h2⟩ := stepB_parts hk (allK_true h k hk)
  have h3 : zs[k] < n := of_decide_eq_true h1
  have h4 : okG 0 (n - 1) zs[k] = true := inB_mk ⟨key k hk, by omega⟩
  by_cases hp : 0 < k
  · exact stepB_yes hk hp h4 (h2 hp)
  · exact stepB_k0 hk (by omega) h4
theorem impl_sizeI (w : World) (ao : Option Addr) (n cap : Nat) (hn : n ≤ 1048576) : Calls Tryz.prog 80 #[.slice ao n cap] w fun e w' => e = .returned (.int .i64 n) ∧ w = w' := by
  go_enter Tryz.func80, Tryz.ntmps80
  go_wp2
  go_ret
  exact ⟨rfl, rfl⟩
theorem impl_sizeR (w : World) (ao : Option Addr) (n cap : Nat) (hn : n ≤ 1048576) : Calls Tryz.prog 109 #[.slice ao n cap] w fun e w' => e = .returned (.int .i64 n) ∧ w = w' := by
  go_enter Tryz.func109, Tryz.ntmps109
  go_wp2
  go_ret
  exact ⟨rfl, rfl⟩
set_option maxHeartbeats 2000000 in
theorem spec_l08Zones (w : World) (v : Value) (zs : List Int) (h : Rd w.heap.size w v 1 zs.length (zs.flatMap putI)) (hcn : zs.length ≤ 1048576) :
    Calls Tryz.prog 123 #[v] w fun e w' => e = .returned (.bool (zonesB 32 zs)) ∧ Below w.heap.size w w' := by
  have H := Lib.hid h
  obtain ⟨hL, ao, cap, rfl, hcap, hmax, hnil, hsome⟩ := h
  by_cases h1 : 1 ≤ zs.length
  case neg =>
    have e := Lib.hid (zonesB_no0 (n := 32) h1)
    clear hsome hnil
    go_enter Tryz.func123, Tryz.ntmps123
    go_wp2_with fail
    go_ret
    exact ⟨by rw [e.out]; rfl, Below.refl _ _⟩
  by_cases h8 : zs.length ≤ 8
  case neg =>
    have e := Lib.hid (zonesB_no8 (n := 32) h8)
    clear hsome hnil
    go_enter Tryz.func123, Tryz.ntmps123
    go_wp2_with fail
    go_ret
    exact ⟨by rw [e.out]; rfl, Below.refl _ _⟩
  obtain ⟨b, off, rfl, hbB, hc⟩ := hsome (by omega)
  have c0 : w.cell? ⟨b, off, none⟩ = some (.int .i64 zs[0]) := by
    have := hc 0 (by omega)
    rw [Nat.add_zero] at this
    rw [this, putI_get zs 0 (by omega)]
  by_cases hz : zs[0] = 0
  case neg =>
    have e := Lib.hid (zonesB_noz (n := 32) (by omega) hz)
    have t0 : (zs[0] == 0) = false := beq_eq_false_iff_ne.2 hz
    clear hsome hnil hc hz
    generalize zs[0] = z0 at *
    go_enter Tryz.func123, Tryz.ntmps123
    go_wp2_with fail
    go_ret
    exact ⟨by rw [e.out]; rfl, Below.refl _ _⟩
  have e := Lib.hid (zonesB_of (n := 32) h1 h8 hz)
  have HR := Lib.hid (spec_rises w _ 0 31 zs H.out hcn)
  rw [hz] at c0
  clear hsome hnil hc hz
  go_enter Tryz.func123, Tryz.ntmps123
  go_wp2_with fail
  refine HR.out.mono ?_; rintro e1 w1 ⟨rfl, b1⟩
  go_wp2_with fail
  go_ret
  exact ⟨by rw [e.out]; rfl, b1⟩
set_option maxHeartbeats 2000000 in
theorem impl_areZones (w : World) (v : Value) (n : Nat) (zs : List Int) (h : Rd w.heap.size w v 1 zs.length (zs.flatMap putI)) (hcn : zs.length ≤ 1048576) (hn : n ≤ 1048576) :
    Calls Tryz.prog 108 #[v, .int .i64 n] w fun e w' => e = .returned (.bool (zonesB n zs)) ∧ Below w.heap.size w w' := by
  obtain ⟨hL, ao, cap, rfl, hcap, hmax, hnil, hsome⟩ := h
  go_enter Tryz.func108, Tryz.ntmps108
  go_wp2
  go_loopw [9] (fun i wr => ∃ (k : Nat), k ≤ zs.length ∧ i = .int .i64 k ∧ allK (stepB (belowB n) ltI zs) k = true ∧ Below w.heap.size w wr) (fun i _ => zs.length - (intOf i).toNat)
  case atStart => exact ⟨0, Nat.zero_le _, rfl, rfl, Below.refl _ _⟩
  case round =>
    obtain ⟨k, hk, rfl, hall, hb⟩ := hrel
    have Hall := Lib.hid hall; clear hall
    have HB := Lib.hid hb
    have hbs := hb.size
    clear hb
    by_cases hlt : k < zs.length
    · obtain ⟨b, off, rfl, hbB, hc⟩ := hsome (by omega)
      have c0 : wr.cell? ⟨b, off + k, none⟩ = some (.int .i64 zs[k]) := by
        rw [HB.out.cell (p := ⟨b, off + k, none⟩) hbB, hc k (by omega), putI_get zs k hlt]
      have hbr : b < wr.heap.size := Nat.lt_of_lt_of_le hbB hbs
      have HS := Lib.hid (allK_succ (stepB (belowB n) ltI zs) k)
      have HF := Lib.hid (fun h => areaZ_no (n := n) (zs := zs) (allK_false (stepB (belowB n) ltI zs) zs.length k hlt h))
      have HC := Lib.hid hc
      clear hc hsome hnil
      by_cases hB : zs[k] < n
      · have hO : belowB n zs[k] = true := decide_eq_true hB
        have t2 : decide ((n : Int) ≤ zs[k]) = false := decide_eq_false (by omega)
        by_cases hk0 : k = 0
        · have e : Hid (allK (stepB (belowB n) ltI zs) (k + 1) = true) := (by rw [HS.out, Hall.out, stepB_k0 hlt hk0 hO]; rfl : allK (stepB (belowB n) ltI zs) (k + 1) = true)
          have hz : decide (0 < k) = false := decide_eq_false (by omega)
          clear hk0 hO hB
          generalize zs[k] = zk at *
          go_wp2_with fail
          go_roundw
          case rel => exact ⟨k + 1, by omega, by go_num, e.out, HB.out⟩
          case measure => simp [intOf]; omega
        have hpos : 0 < k := by omega
        have hz : decide (0 < k) = true := decide_eq_true (by omega)
        have p0 : wr.cell? ⟨b, off + (k - 1), none⟩ = some (.int .i64 zs[k - 1]) := by
          rw [HB.out.cell (p := ⟨b, off + (k - 1), none⟩) hbB, HC.out (k - 1) (by omega), putI_get zs (k - 1) (by omega)]
        clear hk0
        by_cases hT : zs[k - 1] < zs[k]
        · have e : Hid (allK (stepB (belowB n) ltI zs) (k + 1) = true) := (by rw [HS.out, Hall.out, stepB_yes hlt hpos hO (decide_eq_true hT)]; rfl : allK (stepB (belowB n) ltI zs) (k + 1) = true)
          have t1 : decide (zs[k] ≤ zs[k - 1]) = false := decide_eq_false (by omega)
          clear hT hO hB
          generalize zs[k - 1] = zj at *
          generalize zs[k] = zk at *
          go_wp2_with fail
          go_roundw
          case rel => exact ⟨k + 1, by omega, by go_num, e.out, HB.out⟩
          case measure => simp [intOf]; omega
        · have e := Lib.hid (HF.out (stepB_lt hlt hpos hO (decide_eq_false hT)))
          have t1 : decide (zs[k] ≤ zs[k - 1]) = true := decide_eq_true (by omega)
          clear hT hO hB
          generalize zs[k - 1] = zj at *
          generalize zs[k] = zk at *
          go_wp2_with fail
          go_ret
          exact ⟨by rw [e.out]; rfl, HB.out⟩
      · have hO : belowB n zs[k] = false := decide_eq_false hB
        have e := Lib.hid (HF.out (stepB_no hlt hO))
        have t2 : decide ((n : Int) ≤ zs[k]) = true := decide_eq_true (by omega)
        by_cases hk0 : k = 0
        · have hz : decide (0 < k) = false := decide_eq_false (by omega)
          clear hk0 hO hB
          generalize zs[k] = zk at *
          go_wp2_with fail
          go_ret
          exact ⟨by rw [e.out]; rfl, HB.out⟩
        have hpos : 0 < k := by omega
        have hz : decide (0 < k) = true := decide_eq_true (by omega)
        have p0 : wr.cell? ⟨b, off + (k - 1), none⟩ = some (.int .i64 zs[k - 1]) := by
          rw [HB.out.cell (p := ⟨b, off + (k - 1), none⟩) hbB, HC.out (k - 1) (by omega), putI_get zs (k - 1) (by omega)]
        clear hk0 hO hB
        generalize zs[k - 1] = zj at *
        generalize zs[k] = zk at *
        by_cases hT : zk ≤ zj
        · have t1 : decide (zk ≤ zj) = true := decide_eq_true hT
          clear hT
          go_wp2_with fail
          go_ret
          exact ⟨by rw [e.out]; rfl, HB.out⟩
        · have t1 : decide (zk ≤ zj) = false := decide_eq_false hT
          clear hT
          go_wp2_with fail
          go_ret
          exact ⟨by rw [e.out]; rfl, HB.out⟩
    · obtain rfl : k = zs.length := by omega
      have HA : Hid (areaZ n zs = true) := Lib.hid Hall.out
      have HSZ := Lib.hid (fun w' => impl_sizeI w' ao zs.length cap hcn)
      by_cases h1 : 1 ≤ zs.length
      case neg =>
        have e := Lib.hid (zonesB_no0 (n := n) h1)
        have t1 := Lib.hid (fun w' => within_is (b := false) (zs.length : Int) 1 8 w' (by unfold inB; rw [decide_eq_false (by omega)]; rfl))
        clear hsome hnil
        go_wp2_with fail
        refine (HSZ.out _).mono ?_; rintro e1 w1 ⟨rfl, rfl⟩
        go_wp2_with fail
        refine (t1.out _).mono ?_; rintro e1 w1 ⟨rfl, rfl⟩
        go_wp2_with fail
        go_ret
        exact ⟨by rw [e.out]; rfl, HB.out⟩
      by_cases h8 : zs.length ≤ 8
      case neg =>
        have e := Lib.hid (zonesB_no8 (n := n) h8)
        have t1 := Lib.hid (fun w' => within_is (b := false) (zs.length : Int) 1 8 w' (by unfold inB; rw [decide_eq_false (p := ((zs.length : Int) ≤ 8)) (by omega)]; simp))
        clear hsome hnil
        go_wp2_with fail
        refine (HSZ.out _).mono ?_; rintro e1 w1 ⟨rfl, rfl⟩
        go_wp2_with fail
        refine (t1.out _).mono ?_; rintro e1 w1 ⟨rfl, rfl⟩
        go_wp2_with fail
        go_ret
        exact ⟨by rw [e.out]; rfl, HB.out⟩
      obtain ⟨b, off, rfl, hbB, hc⟩ := hsome (by omega)
      have c0 : wr.cell? ⟨b, off, none⟩ = some (.int .i64 zs[0]) := by
        have := HB.out.cell (p := ⟨b, off + 0, none⟩) hbB
        rw [Nat.add_zero] at this
        have q := hc 0 (by omega)
        rw [Nat.add_zero] at q
        rw [this, q, putI_get zs 0 (by omega)]
      have hbr : b < wr.heap.size := Nat.lt_of_lt_of_le hbB hbs
      have t1 := Lib.hid (fun w' => within_is (b := true) (zs.length : Int) 1 8 w' (inB_mk ⟨by omega, by omega⟩))
      by_cases hz : zs[0] = 0
      case neg =>
        have e := Lib.hid (zonesB_noz (n := n) (by omega) hz)
        have t0 : (zs[0] == 0) = false := beq_eq_false_iff_ne.2 hz
        clear hsome hnil hc hz
        generalize zs[0] = z0 at *
        go_wp2_with fail
        refine (HSZ.out _).mono ?_; rintro e1 w1 ⟨rfl, rfl⟩
        go_wp2_with fail
        refine (t1.out _).mono ?_; rintro e1 w1 ⟨rfl, rfl⟩
        go_wp2_with fail
        go_ret
        exact ⟨by rw [e.out]; rfl, HB.out⟩
      have e : Hid (zonesB n zs = true) := Lib.hid (by rw [zonesB_of h1 h8 hz]; exact areaZ_yes HA.out (by omega) hz)
      rw [hz] at c0
      clear hsome hnil hc hz
      go_wp2_with fail
      refine (HSZ.out _).mono ?_; rintro e1 w1 ⟨rfl, rfl⟩
      go_wp2_with fail
      refine (t1.out _).mono ?_; rintro e1 w1 ⟨rfl, rfl⟩
      go_wp2_with fail
      go_ret
      exact ⟨by rw [e.out]; rfl, HB.out⟩
end Go.Proofs.YtcjekailcljaaaaGreat
