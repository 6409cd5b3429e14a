/- Contracts and plain facts, joined: OneProfile. -/
import Derived.Test.YtcjekailcljaaaaGreatRows
import Derived.Test.YtcjekailcljaaaaGreatZFnExactGreedyPlanF
import Derived.Test.YtcjekailcljaaaaGreatZFnExactGreedyPlanK
import Derived.Test.YtcjekailcljaaaaGreatZFnExactGreedyPlanM
import Derived.Test.YtcjekailcljaaaaGreatZFnExactGreedyPlanO
namespace Go.Proofs.YtcjekailcljaaaaGreat
open Go.ChangeShapes Go.WideShapes Go.ChangeAt Go.RowKit Go.Deep Go.Joins
set_option linter.unusedVariables false
set_option maxRecDepth 100000
set_option linter.unusedSimpArgs false
def heightS (rs : List Ring) : Int := (rs.map fun r => r.height).sum
def profB (x : Profile) : Bool := nameB x.name && (decide (1 ≤ x.rings.length) && (decide (x.rings.length ≤ 32) && (allK (stepB ringB joinB x.rings) x.rings.length && decide (heightS x.rings ≤ 300000))))
theorem heightS_succ (rs : List Ring) (k : Nat) (h : k < rs.length) : heightS (rs.take (k + 1)) = heightS (rs.take k) + rs[k].height := by
  unfold heightS
  rw [List.take_succ_eq_append_getElem h, List.map_append, List.sum_append]
  simp
theorem heightS_bd : ∀ (rs : List Ring), (∀ r ∈ rs, ringB r = true) → 0 ≤ heightS rs ∧ heightS rs ≤ rs.length * 300000
  | [], _ => by simp [heightS]
  | r :: rs, h => by
    have ih := heightS_bd rs (fun y hy => h y (List.mem_cons_of_mem _ hy))
    have h1 := (ringB_nums (h r (List.mem_cons_self ..))).2.2
    have e : heightS (r :: rs) = r.height + heightS rs := by simp [heightS]
    rw [e, List.length_cons]
    push_cast; omega
theorem heightS_take_bd {rs : List Ring} (h : ∀ r ∈ rs, ringB r = true) (hl : rs.length ≤ 32) (k : Nat) : 0 ≤ heightS (rs.take k) ∧ heightS (rs.take k) ≤ 9600000 := by
  have h1 := heightS_bd (rs.take k) (fun x hx => h x (List.mem_of_mem_take hx))
  have h2 : (rs.take k).length ≤ 32 := by rw [List.length_take]; omega
  omega
theorem rings_all {rs : List Ring} (h : allK (stepB ringB joinB rs) rs.length = true) : ∀ r ∈ rs, ringB r = true := fun r hr => by
  obtain ⟨i, hi, rfl⟩ := List.mem_iff_getElem.1 hr
  have := allK_true h i hi
  unfold stepB at this
  rw [List.getElem?_eq_getElem hi] at this
  simp only [Bool.and_eq_true] at this
  exact this.1
theorem profB_true {x : Profile} (h : profB x = true) : 1 ≤ x.rings.length ∧ x.rings.length ≤ 32 ∧ (∀ r ∈ x.rings, ringB r = true) ∧ heightS x.rings ≤ 300000 := by
  simp only [profB, Bool.and_eq_true, decide_eq_true_eq] at h
  exact ⟨h.2.1, h.2.2.1, rings_all h.2.2.2.1, h.2.2.2.2⟩

set_option maxHeartbeats 1000000 in
theorem spec_l05Height (w : World) (a o1 : Nat) (v : Value) (rs : List Ring) (g1 : w.cell? ⟨a, o1 + 1, none⟩ = some v) (ha : a < w.heap.size) (h : Rd w.heap.size w v 3 rs.length (rs.flatMap Ring.put)) (hl : rs.length ≤ 32) (hv : ∀ r ∈ rs, ringB r = true) :
    Calls Tryz.prog 127 #[.pointer (some ⟨a, o1, none⟩)] w fun e w' => e = .returned (.int .i64 (heightS rs)) ∧ w = w' := by
  obtain ⟨hL, ao, cap, rfl, hcap, hmax, hnil, hsome⟩ := h
  have HS := Lib.hid (heightS_take_bd hv hl)
  have HV := Lib.hid hv; clear hv
  go_enter Tryz.func127, Tryz.ntmps127
  go_wp2
  go_loop [3, 4] (fun s i => ∃ (k : Nat), k ≤ rs.length ∧ i = .int .i64 k ∧ s = .int .i64 (heightS (rs.take k))) (fun _ i => rs.length - (intOf i).toNat)
  case atStart => exact ⟨0, Nat.zero_le _, rfl, rfl⟩
  case round =>
    obtain ⟨k, hk, rfl, rfl⟩ := hrel
    obtain ⟨m1, m2⟩ := HS.out k
    by_cases hlt : k < rs.length
    · obtain ⟨b, off, rfl, hbB, hc⟩ := hsome (by omega)
      have c0 : w.cell? ⟨b, off + k * 3 + 2, none⟩ = some (.int .i64 rs[k].height) := by
        rw [show off + k * 3 + 2 = off + (k * 3 + 2) from by omega, hc (k * 3 + 2) (by omega), Ring_get2 rs k hlt]
      have hr := ringB_nums (HV.out rs[k] (List.getElem_mem hlt))
      have E : Hid (heightS (rs.take (k + 1)) = heightS (rs.take k) + rs[k].height) := heightS_succ rs k hlt
      clear hc hsome hnil
      generalize heightS (rs.take k) = S at *
      go_wp2
      go_round
      case rel => exact ⟨k + 1, by omega, by go_num, by rw [E.out]⟩
      case measure => simp [intOf]; omega
    · have e1 : Hid (rs.take k = rs) := (List.take_of_length_le (by omega) : rs.take k = rs)
      clear hsome hnil
      go_wp2
      go_ret
      exact ⟨by rw [e1.out]; rfl, rfl⟩

theorem spec_l05Ring_above {b : Bool} (r : Ring) (a o : Nat) (W x : World) (h0 : W.cell? ⟨a, o, none⟩ = some (.int .i64 r.outer)) (h1 : W.cell? ⟨a, o + 1, none⟩ = some (.int .i64 r.inner)) (h2 : W.cell? ⟨a, o + 2, none⟩ = some (.int .i64 r.height)) (ha : a < W.heap.size) (hb : ringB r = b) :
    Calls Tryz.prog 125 #[.pointer (some ⟨a, o, none⟩)] (above W x) fun e w' => e = .returned (.bool b) ∧ ∃ m, w' = above W m :=
  aboveC (spec_l05Ring_is r a o _ ((above_cell ha).trans h0) ((above_cell ha).trans h1) ((above_cell ha).trans h2) (Nat.lt_of_lt_of_le ha (above_below _ _).size) hb)
theorem spec_l05Joined_above {b : Bool} (x y : Ring) (a o a2 o2 : Nat) (W x0 : World) (h0 : W.cell? ⟨a, o, none⟩ = some (.int .i64 x.outer)) (h1 : W.cell? ⟨a, o + 1, none⟩ = some (.int .i64 x.inner)) (k0 : W.cell? ⟨a2, o2, none⟩ = some (.int .i64 y.outer)) (k1 : W.cell? ⟨a2, o2 + 1, none⟩ = some (.int .i64 y.inner)) (ha : a < W.heap.size) (ha2 : a2 < W.heap.size) (hb : joinB x y = b) :
    Calls Tryz.prog 126 #[.pointer (some ⟨a, o, none⟩), .pointer (some ⟨a2, o2, none⟩)] (above W x0) fun e w' => e = .returned (.bool b) ∧ ∃ m, w' = above W m :=
  aboveC (spec_l05Joined_is x y a o a2 o2 _ ((above_cell ha).trans h0) ((above_cell ha).trans h1) ((above_cell ha2).trans k0) ((above_cell ha2).trans k1) (Nat.lt_of_lt_of_le ha (above_below _ _).size) (Nat.lt_of_lt_of_le ha2 (above_below _ _).size) hb)

set_option maxHeartbeats 4000000 in
theorem spec_l05Ok {b0 : Bool} (w : World) (x : Profile) (a o1 : Nat) (lo : Option Addr) (lc : Nat) (g0 : w.cell? ⟨a, o1, none⟩ = some (.string x.name)) (g1 : w.cell? ⟨a, o1 + 1, none⟩ = some (.slice lo x.rings.length lc)) (ha : a < w.heap.size) (hs : x.name.size ≤ maxLen) (h : Rd w.heap.size w (.slice lo x.rings.length lc) 3 x.rings.length (x.rings.flatMap Ring.put)) (hn : x.rings.length ≤ 1048576) (hb0 : profB x = b0) :
    Calls Tryz.prog 99 #[.pointer (some ⟨a, o1, none⟩)] w fun e w' => e = .returned (.bool b0) ∧ Below w.heap.size w w' := by
  subst hb0
  have HI := Lib.hid hs; clear hs
  have HRD := Lib.hid h
  obtain ⟨hL, ao, cap, he, hcap, hmax, hnil, hsome⟩ := h
  cases he
  cases hN : nameB x.name
  case false =>
    have e : Hid (profB x = false) := (by unfold profB; rw [hN]; rfl : profB x = false)
    clear hsome hnil
    go_enter Tryz.func99, Tryz.ntmps99
    go_wp2_with (first | (go_at_call 124; refine (spec_l01Name_is _ _ HI.out (by assumption)).mono ?_; rintro e w' ⟨rfl, rfl⟩))
    go_ret
    exact ⟨by rw [e.out]; rfl, by (repeat' (first | (with_reducible exact Below.refl _ _) | (with_reducible assumption) | (with_reducible refine below_dn ?_ _) | (with_reducible refine Below.drew ?_) | (with_reducible refine Below.alloc ?_ ?_ _) | (with_reducible refine Below.setCell ?_ ?_ _) | go_size))⟩
  by_cases hz1 : 1 ≤ x.rings.length
  case neg =>
    have e : Hid (profB x = false) := (by unfold profB; rw [decide_eq_false hz1]; simp : profB x = false)
    clear hsome hnil
    go_enter Tryz.func99, Tryz.ntmps99
    go_wp2_with (first | (go_at_call 124; refine (spec_l01Name_is _ _ HI.out (by assumption)).mono ?_; rintro e w' ⟨rfl, rfl⟩))
    go_ret
    exact ⟨by rw [e.out]; rfl, by (repeat' (first | (with_reducible exact Below.refl _ _) | (with_reducible assumption) | (with_reducible refine below_dn ?_ _) | (with_reducible refine Below.drew ?_) | (with_reducible refine Below.alloc ?_ ?_ _) | (with_reducible refine Below.setCell ?_ ?_ _) | go_size))⟩
  by_cases hz2 : x.rings.length ≤ 32
  case neg =>
    have e : Hid (profB x = false) := (by unfold profB; rw [decide_eq_false hz2]; simp : profB x = false)
    clear hsome hnil
    go_enter Tryz.func99, Tryz.ntmps99
    go_wp2_with (first | (go_at_call 124; refine (spec_l01Name_is _ _ HI.out (by assumption)).mono ?_; rintro e w' ⟨rfl, rfl⟩))
    go_ret
    exact ⟨by rw [e.out]; rfl, by (repeat' (first | (with_reducible exact Below.refl _ _) | (with_reducible assumption) | (with_reducible refine below_dn ?_ _) | (with_reducible refine Below.drew ?_) | (with_reducible refine Below.alloc ?_ ?_ _) | (with_reducible refine Below.setCell ?_ ?_ _) | go_size))⟩
  have es : Hid (profB x = (allK (stepB ringB joinB x.rings) x.rings.length && decide (heightS x.rings ≤ 300000))) := (by unfold profB; rw [hN, decide_eq_true hz1, decide_eq_true hz2]; simp : profB x = (allK (stepB ringB joinB x.rings) x.rings.length && decide (heightS x.rings ≤ 300000)))
  generalize hrs : x.rings = rs at *
  clear hrs
  go_enter Tryz.func99, Tryz.ntmps99
  go_wp2_with (first | (go_at_call 124; refine (spec_l01Name_is _ _ HI.out (by assumption)).mono ?_; rintro e w' ⟨rfl, rfl⟩))
  clear hN
  go_loopw [3] (fun i wr => ∃ (k : Nat), k ≤ rs.length ∧ i = .int .i64 k ∧ allK (stepB ringB joinB rs) k = true ∧ Below w.heap.size w wr) (fun i _ => rs.length - (intOf i).toNat)
  case atStart => exact ⟨0, Nat.zero_le _, rfl, rfl, by (repeat' (first | (with_reducible exact Below.refl _ _) | (with_reducible assumption) | (with_reducible refine below_dn ?_ _) | (with_reducible refine Below.drew ?_) | (with_reducible refine Below.alloc ?_ ?_ _) | (with_reducible refine Below.setCell ?_ ?_ _) | go_size))⟩
  case round =>
    obtain ⟨k, hk, rfl, hall, hb⟩ := hrel
    have Hall := Lib.hid hall; clear hall
    have r0 : wr.cell? ⟨a, o1, none⟩ = some (.string x.name) := (hb.cell (p := ⟨a, o1, none⟩) ha).trans g0
    have r1 : wr.cell? ⟨a, o1 + 1, none⟩ = some (.slice lo rs.length lc) := (hb.cell (p := ⟨a, o1 + 1, none⟩) ha).trans g1
    have har : a < wr.heap.size := Nat.lt_of_lt_of_le ha hb.size
    by_cases hlt : k < rs.length
    · obtain ⟨b, off, rfl, hbB, hc⟩ := hsome (by omega)
      have c0 : wr.cell? ⟨b, off + k * 3, none⟩ = some (.int .i64 rs[k].outer) := by rw [show off + k * 3 = off + (k * 3 + 0) from by omega, hb.cell (p := ⟨b, off + (k * 3 + 0), none⟩) hbB, hc (k * 3 + 0) (by omega), Ring_get0 rs k hlt]
      have c1 : wr.cell? ⟨b, off + k * 3 + 1, none⟩ = some (.int .i64 rs[k].inner) := by rw [show off + k * 3 + 1 = off + (k * 3 + 1) from by omega, hb.cell (p := ⟨b, off + (k * 3 + 1), none⟩) hbB, hc (k * 3 + 1) (by omega), Ring_get1 rs k hlt]
      have c2 : wr.cell? ⟨b, off + k * 3 + 2, none⟩ = some (.int .i64 rs[k].height) := by rw [show off + k * 3 + 2 = off + (k * 3 + 2) from by omega, hb.cell (p := ⟨b, off + (k * 3 + 2), none⟩) hbB, hc (k * 3 + 2) (by omega), Ring_get2 rs k hlt]
      have hbr : b < wr.heap.size := Nat.lt_of_lt_of_le hbB hb.size
      have HS := Lib.hid (allK_succ (stepB ringB joinB rs) k)
      have HF := Lib.hid (allK_false (stepB ringB joinB rs) rs.length k hlt)
      have HB := Lib.hid hb
      cases hO : ringB rs[k]
      · have e : Hid (profB x = false) := (by rw [es.out, HF.out (stepB_no hlt hO)]; rfl : profB x = false)
        have HO := Lib.hid hO; clear hO
        clear hc hsome hnil hb g0 g1 HRD
        go_wp2_with fail
        refine wp_region_above (by kernel_rfl) (by kernel_rfl) ?_
        repeat (go_big_quiet_step ((first | (go_at_call 125; exact spec_l05Ring_above rs[k] _ _ _ _ c0 c1 c2 hbr HO.out))))
        refine wpQuiet_nil ?_
        intro w1 b1
        have HB1 := Lib.hid (HB.out.trans (b1.mono HB.out.size)); clear b1 HB
        go_wp2_with fail
        go_ret
        exact ⟨by rw [e.out]; rfl, HB1.out⟩
      by_cases hk0 : k = 0
      · have e : Hid (allK (stepB ringB joinB rs) (k + 1) = true) := (by rw [HS.out, Hall.out, stepB_k0 hlt hk0 hO]; rfl : allK (stepB ringB joinB rs) (k + 1) = true)
        have hz : decide (0 < k) = false := decide_eq_false (by omega)
        have HO := Lib.hid hO; clear hO hk0
        clear hc hsome hnil hb g0 g1 HRD
        go_wp2_with fail
        refine wp_region_above (by kernel_rfl) (by kernel_rfl) ?_
        repeat (go_big_quiet_step ((first | (go_at_call 125; exact spec_l05Ring_above rs[k] _ _ _ _ c0 c1 c2 hbr HO.out))))
        refine wpQuiet_nil ?_
        intro w1 b1
        have HB1 := Lib.hid (HB.out.trans (b1.mono HB.out.size)); clear b1 HB
        go_wp2_with fail
        go_roundw
        case rel => exact ⟨k + 1, by omega, by go_num, e.out, HB1.out⟩
        case measure => simp [intOf]; omega
      have hpos : 0 < k := by omega
      have hz : decide (0 < k) = true := decide_eq_true (by omega)
      clear hk0
      have d0 : wr.cell? ⟨b, off + (k - 1) * 3, none⟩ = some (.int .i64 rs[k - 1].outer) := by rw [show off + (k - 1) * 3 = off + ((k - 1) * 3 + 0) from by omega, hb.cell (p := ⟨b, off + ((k - 1) * 3 + 0), none⟩) hbB, hc ((k - 1) * 3 + 0) (by omega), Ring_get0 rs (k - 1) (by omega)]
      have d1 : wr.cell? ⟨b, off + (k - 1) * 3 + 1, none⟩ = some (.int .i64 rs[k - 1].inner) := by rw [show off + (k - 1) * 3 + 1 = off + ((k - 1) * 3 + 1) from by omega, hb.cell (p := ⟨b, off + ((k - 1) * 3 + 1), none⟩) hbB, hc ((k - 1) * 3 + 1) (by omega), Ring_get1 rs (k - 1) (by omega)]
      cases hT : joinB rs[k - 1] rs[k]
      · have e : Hid (profB x = false) := (by rw [es.out, HF.out (stepB_lt hlt hpos hO hT)]; rfl : profB x = false)
        have HO := Lib.hid hO; clear hO
        have HT := Lib.hid hT; clear hT
        clear hc hsome hnil hb g0 g1 HRD
        go_wp2_with fail
        refine wp_region_above (by kernel_rfl) (by kernel_rfl) ?_
        repeat (go_big_quiet_step ((first | (go_at_call 125; exact spec_l05Ring_above rs[k] _ _ _ _ c0 c1 c2 hbr HO.out) | (go_at_call 126; exact spec_l05Joined_above rs[k - 1] rs[k] _ _ _ _ _ _ d0 d1 c0 c1 hbr hbr HT.out))))
        refine wpQuiet_nil ?_
        intro w1 b1
        have HB1 := Lib.hid (HB.out.trans (b1.mono HB.out.size)); clear b1 HB
        go_wp2_with fail
        go_ret
        exact ⟨by rw [e.out]; rfl, HB1.out⟩
      · have e : Hid (allK (stepB ringB joinB rs) (k + 1) = true) := (by rw [HS.out, Hall.out, stepB_yes hlt hpos hO hT]; rfl : allK (stepB ringB joinB rs) (k + 1) = true)
        have HO := Lib.hid hO; clear hO
        have HT := Lib.hid hT; clear hT
        clear hc hsome hnil hb g0 g1 HRD
        go_wp2_with fail
        refine wp_region_above (by kernel_rfl) (by kernel_rfl) ?_
        repeat (go_big_quiet_step ((first | (go_at_call 125; exact spec_l05Ring_above rs[k] _ _ _ _ c0 c1 c2 hbr HO.out) | (go_at_call 126; exact spec_l05Joined_above rs[k - 1] rs[k] _ _ _ _ _ _ d0 d1 c0 c1 hbr hbr HT.out))))
        refine wpQuiet_nil ?_
        intro w1 b1
        have HB1 := Lib.hid (HB.out.trans (b1.mono HB.out.size)); clear b1 HB
        go_wp2_with fail
        go_roundw
        case rel => exact ⟨k + 1, by omega, by go_num, e.out, HB1.out⟩
        case measure => simp [intOf]; omega
    · have hall : allK (stepB ringB joinB rs) rs.length = true := by
        obtain rfl : k = rs.length := by omega
        exact Hall.out
      have e : Hid (profB x = decide (heightS rs ≤ 300000)) := (by rw [es.out, hall]; rfl : profB x = decide (heightS rs ≤ 300000))
      have HB := Lib.hid hb
      have HX := Lib.hid (spec_l05Height wr a o1 _ rs r1 har (HRD.out.up hb) (by omega) (rings_all hall))
      clear hsome hnil hb hall g0 g1
      generalize heightS rs = hh at *
      go_wp2_with fail
      refine HX.out.mono ?_; rintro e1 w1 ⟨rfl, rfl⟩
      go_wp2_with fail
      go_ret
      exact ⟨by rw [e.out]; rfl, HB.out⟩

theorem impl_ValidProfile1 (r : Ring) (w : World) :
    Calls Tryz.prog 120 #[.agg #[.int .i64 r.outer, .int .i64 r.inner, .int .i64 r.height]] w fun e w' => e = .returned (.bool (!ringB r)) ∧ Below w.heap.size w w' := by
  go_enter Tryz.func120, Tryz.ntmps120
  go_wp2_with fail
  refine (impl_ValidRing_is r _ rfl).mono ?_; rintro e w1 ⟨rfl, b1⟩
  go_wp2_with fail
  go_ret
  exact ⟨rfl, Below.trans (by (repeat' (first | (with_reducible exact Below.refl _ _) | (with_reducible assumption) | (with_reducible refine below_dn ?_ _) | (with_reducible refine Below.drew ?_) | (with_reducible refine Below.alloc ?_ ?_ _) | (with_reducible refine Below.setCell ?_ ?_ _) | go_size))) (b1.mono (by simp <;> omega))⟩

set_option maxHeartbeats 1000000 in
theorem IndexFunc_ValidProfile1 (w : World) (v : Value) (xs : List Ring) (p : Ring → Bool) (h : Rd w.heap.size w v 3 xs.length (xs.flatMap Ring.put)) (hn : xs.length ≤ 1048576)
    (H : ∀ (wr : World) (hb : Below w.heap.size w wr) (k : Nat) (hk : k < xs.length), Calls Tryz.prog 120 #[.agg #[.int .i64 xs[k].outer, .int .i64 xs[k].inner, .int .i64 xs[k].height]] wr fun e w' => e = .returned (.bool (p xs[k])) ∧ Below wr.heap.size wr w') :
    Calls Tryz.prog 137 #[v, .func (.func 120) #[] #[]] w fun e w' => (∃ r : Int, e = .returned (.int .i64 r) ∧ decide (0 ≤ r) = xs.any p) ∧ Below w.heap.size w w' := by
  obtain ⟨hL, ao, cap, rfl, hcap, hmax, hnil, hsome⟩ := h
  go_enter Tryz.func137, Tryz.ntmps137
  have HH := Lib.hid H; clear H
  go_wp2
  go_loopw [8] (fun i wr => ∃ (k : Nat), k ≤ xs.length ∧ i = .int .i64 k ∧ (xs.take k).any p = false ∧ Below w.heap.size w wr) (fun i _ => xs.length - (intOf i).toNat)
  case atStart => exact ⟨0, Nat.zero_le _, rfl, rfl, Below.refl _ _⟩
  case round =>
    obtain ⟨k, hk, rfl, hall, hb⟩ := hrel
    have Hall := Lib.hid hall; clear hall
    by_cases hlt : k < xs.length
    · obtain ⟨b, off, rfl, hbB, hc⟩ := hsome (by omega)
      have c0 : wr.cell? ⟨b, off + k * 3, none⟩ = some (.int .i64 xs[k].outer) := by rw [show off + k * 3 = off + (k * 3 + 0) from by omega, hb.cell (p := ⟨b, off + (k * 3 + 0), none⟩) hbB, hc (k * 3 + 0) (by omega), Ring_get0 xs k hlt]
      have c1 : wr.cell? ⟨b, off + k * 3 + 1, none⟩ = some (.int .i64 xs[k].inner) := by rw [show off + k * 3 + 1 = off + (k * 3 + 1) from by omega, hb.cell (p := ⟨b, off + (k * 3 + 1), none⟩) hbB, hc (k * 3 + 1) (by omega), Ring_get1 xs k hlt]
      have c2 : wr.cell? ⟨b, off + k * 3 + 2, none⟩ = some (.int .i64 xs[k].height) := by rw [show off + k * 3 + 2 = off + (k * 3 + 2) from by omega, hb.cell (p := ⟨b, off + (k * 3 + 2), none⟩) hbB, hc (k * 3 + 2) (by omega), Ring_get2 xs k hlt]
      have hbr : b < wr.heap.size := Nat.lt_of_lt_of_le hbB hb.size
      have HC := Lib.hid (HH.out wr hb k hlt); clear HH
      have HB := Lib.hid hb
      clear hc hsome hnil hb 
      cases hO : p xs[k]
      all_goals rw [hO] at HC
      · have e : Hid ((xs.take (k + 1)).any p = false) := (by rw [any_take xs k hlt, Hall.out, hO]; rfl : (xs.take (k + 1)).any p = false)
        clear hO
        go_wp2_with fail
        go_at_call 120
        refine HC.out.mono ?_; rintro e1 w1 ⟨rfl, b1⟩
        have HB1 := Lib.hid (HB.out.trans (b1.mono HB.out.size)); clear b1 HB
        go_wp2_with fail
        go_roundw
        case rel => exact ⟨k + 1, by omega, by go_num, e.out, HB1.out⟩
        case measure => simp [intOf]; omega
      · have e : Hid (xs.any p = true) := (any_at xs k hlt hO : xs.any p = true)
        clear hO
        go_wp2_with fail
        go_at_call 120
        refine HC.out.mono ?_; rintro e1 w1 ⟨rfl, b1⟩
        have HB1 := Lib.hid (HB.out.trans (b1.mono HB.out.size)); clear b1 HB
        go_wp2_with fail
        go_ret
        exact ⟨⟨_, rfl, by rw [e.out]; simp⟩, HB1.out⟩
    · have e : Hid (xs.any p = false) := (by
        have := Hall.out
        rwa [List.take_of_length_le (by omega)] at this : xs.any p = false)
      clear HH
      go_wp2
      go_ret
      exact ⟨⟨_, rfl, by rw [e.out]; rfl⟩, hb⟩

theorem ContainsFunc_ValidProfile1 (w : World) (v : Value) (xs : List Ring) (p : Ring → Bool) (h : Rd w.heap.size w v 3 xs.length (xs.flatMap Ring.put)) (hn : xs.length ≤ 1048576)
    (H : ∀ (wr : World) (hb : Below w.heap.size w wr) (k : Nat) (hk : k < xs.length), Calls Tryz.prog 120 #[.agg #[.int .i64 xs[k].outer, .int .i64 xs[k].inner, .int .i64 xs[k].height]] wr fun e w' => e = .returned (.bool (p xs[k])) ∧ Below wr.heap.size wr w') :
    Calls Tryz.prog 119 #[v, .func (.func 120) #[] #[]] w fun e w' => e = .returned (.bool (xs.any p)) ∧ Below w.heap.size w w' := by
  have H2 := Lib.hid (IndexFunc_ValidProfile1 w v xs p h hn H)
  clear h H
  go_enter Tryz.func119, Tryz.ntmps119
  go_wp2_with fail
  refine H2.out.mono ?_; rintro e w1 ⟨⟨r, rfl, hr⟩, b1⟩
  have Hr := Lib.hid hr; clear hr
  go_wp2_with fail
  go_ret
  exact ⟨by rw [← Hr.out]; rfl, b1⟩

set_option maxHeartbeats 1000000 in
theorem impl_height (w : World) (x : Profile) (lo : Option Addr) (lc : Nat) (h : Rd w.heap.size w (.slice lo x.rings.length lc) 3 x.rings.length (x.rings.flatMap Ring.put)) (hl : x.rings.length ≤ 32) (hv : ∀ r ∈ x.rings, ringB r = true) :
    Calls Tryz.prog 122 #[.agg #[.string x.name, .slice lo x.rings.length lc]] w fun e w' => e = .returned (.int .i64 (heightS x.rings)) ∧ Below w.heap.size w w' := by
  generalize x.rings = rs at *
  obtain ⟨hL, ao, cap, he, hcap, hmax, hnil, hsome⟩ := h
  cases he
  have HS := Lib.hid (heightS_take_bd hv hl)
  have HV := Lib.hid hv; clear hv
  go_enter Tryz.func122, Tryz.ntmps122
  go_wp2
  go_loopw [3, 9] (fun s i wr => ∃ (k : Nat), k ≤ rs.length ∧ i = .int .i64 k ∧ s = .int .i64 (heightS (rs.take k)) ∧ Below w.heap.size w wr) (fun _ i _ => rs.length - (intOf i).toNat)
  case atStart => exact ⟨0, Nat.zero_le _, rfl, rfl, by (repeat' (first | (with_reducible exact Below.refl _ _) | (with_reducible assumption) | (with_reducible refine below_dn ?_ _) | (with_reducible refine Below.drew ?_) | (with_reducible refine Below.alloc ?_ ?_ _) | (with_reducible refine Below.setCell ?_ ?_ _) | go_size))⟩
  case round =>
    obtain ⟨k, hk, rfl, rfl, hb⟩ := hrel
    obtain ⟨m1, m2⟩ := HS.out k
    by_cases hlt : k < rs.length
    · obtain ⟨b, off, rfl, hbB, hc⟩ := hsome (by omega)
      have c0 : wr.cell? ⟨b, off + k * 3, none⟩ = some (.int .i64 rs[k].outer) := by rw [show off + k * 3 = off + (k * 3 + 0) from by omega, hb.cell (p := ⟨b, off + (k * 3 + 0), none⟩) hbB, hc (k * 3 + 0) (by omega), Ring_get0 rs k hlt]
      have c1 : wr.cell? ⟨b, off + k * 3 + 1, none⟩ = some (.int .i64 rs[k].inner) := by rw [show off + k * 3 + 1 = off + (k * 3 + 1) from by omega, hb.cell (p := ⟨b, off + (k * 3 + 1), none⟩) hbB, hc (k * 3 + 1) (by omega), Ring_get1 rs k hlt]
      have c2 : wr.cell? ⟨b, off + k * 3 + 2, none⟩ = some (.int .i64 rs[k].height) := by rw [show off + k * 3 + 2 = off + (k * 3 + 2) from by omega, hb.cell (p := ⟨b, off + (k * 3 + 2), none⟩) hbB, hc (k * 3 + 2) (by omega), Ring_get2 rs k hlt]
      have hr := ringB_nums (HV.out rs[k] (List.getElem_mem hlt))
      have E : Hid (heightS (rs.take (k + 1)) = heightS (rs.take k) + rs[k].height) := heightS_succ rs k hlt
      have hws := hb.size
      have HB := Lib.hid hb
      clear hc hsome hnil hb
      generalize heightS (rs.take k) = S at *
      go_wp2
      go_roundw
      case rel => exact ⟨k + 1, by omega, by go_num, by rw [E.out], by have hb := HB.out; (repeat' (first | (with_reducible exact Below.refl _ _) | (with_reducible assumption) | (with_reducible refine below_dn ?_ _) | (with_reducible refine Below.drew ?_) | (with_reducible refine Below.alloc ?_ ?_ _) | (with_reducible refine Below.setCell ?_ ?_ _) | go_size))⟩
      case measure => simp [intOf]; omega
    · have e1 : Hid (rs.take k = rs) := (List.take_of_length_le (by omega) : rs.take k = rs)
      have HB := Lib.hid hb
      clear hsome hnil hb
      go_wp2
      go_ret
      exact ⟨by rw [e1.out]; rfl, HB.out⟩

theorem any_ring {rs : List Ring} : rs.any (fun r => !ringB r) = false ↔ ∀ r ∈ rs, ringB r = true := by
  rw [List.any_eq_false]
  simp

set_option maxHeartbeats 4000000 in
theorem impl_ValidProfile {b0 : Bool} (w : World) (x : Profile) (lo : Option Addr) (lc : Nat) (hs : x.name.size ≤ maxLen) (h : Rd w.heap.size w (.slice lo x.rings.length lc) 3 x.rings.length (x.rings.flatMap Ring.put)) (hn : x.rings.length ≤ 1048576) (hb0 : profB x = b0) :
    Calls Tryz.prog 95 #[.agg #[.string x.name, .slice lo x.rings.length lc]] w fun e w' => e = .returned (.bool b0) ∧ Below w.heap.size w w' := by
  subst hb0
  have HI := Lib.hid hs; clear hs
  have HRD := Lib.hid h
  have HOW := Lib.hid (Own.new w 43 [.string x.name, .slice lo x.rings.length lc])
  obtain ⟨hL, ao, cap, he, hcap, hmax, hnil, hsome⟩ := h
  cases he
  cases hN : nameB x.name
  case false =>
    have e : Hid (profB x = false) := (by unfold profB; rw [hN]; rfl : profB x = false)
    clear hsome hnil
    go_enter Tryz.func95, Tryz.ntmps95
    go_wp2_with fail
    refine (impl_IsName_is _ _ HI.out hN).mono ?_; rintro e1 w1 ⟨rfl, b1⟩
    go_wp2_with fail
    go_ret
    exact ⟨by rw [e.out]; rfl, Below.trans (by (repeat' (first | (with_reducible exact Below.refl _ _) | (with_reducible assumption) | (with_reducible refine below_dn ?_ _) | (with_reducible refine Below.drew ?_) | (with_reducible refine Below.alloc ?_ ?_ _) | (with_reducible refine Below.setCell ?_ ?_ _) | go_size))) (b1.mono (by simp <;> omega))⟩
  by_cases hz1 : 1 ≤ x.rings.length
  case neg =>
    have e : Hid (profB x = false) := (by unfold profB; rw [decide_eq_false hz1]; simp : profB x = false)
    clear hsome hnil
    go_enter Tryz.func95, Tryz.ntmps95
    go_wp2_with fail
    refine (impl_IsName_is _ _ HI.out hN).mono ?_; rintro e1 w1 ⟨rfl, b1⟩
    obtain ⟨hc, hf⟩ := bcell b1
    go_wp2_with fail
    go_ret
    exact ⟨by rw [e.out]; rfl, Below.trans (by (repeat' (first | (with_reducible exact Below.refl _ _) | (with_reducible assumption) | (with_reducible refine below_dn ?_ _) | (with_reducible refine Below.drew ?_) | (with_reducible refine Below.alloc ?_ ?_ _) | (with_reducible refine Below.setCell ?_ ?_ _) | go_size))) (b1.mono (by simp <;> omega))⟩
  by_cases hz2 : x.rings.length ≤ 32
  case neg =>
    have e : Hid (profB x = false) := (by unfold profB; rw [decide_eq_false hz2]; simp : profB x = false)
    clear hsome hnil
    go_enter Tryz.func95, Tryz.ntmps95
    go_wp2_with fail
    refine (impl_IsName_is _ _ HI.out hN).mono ?_; rintro e1 w1 ⟨rfl, b1⟩
    obtain ⟨hc, hf⟩ := bcell b1
    go_wp2_with fail
    go_ret
    exact ⟨by rw [e.out]; rfl, Below.trans (by (repeat' (first | (with_reducible exact Below.refl _ _) | (with_reducible assumption) | (with_reducible refine below_dn ?_ _) | (with_reducible refine Below.drew ?_) | (with_reducible refine Below.alloc ?_ ?_ _) | (with_reducible refine Below.setCell ?_ ?_ _) | go_size))) (b1.mono (by simp <;> omega))⟩
  have es : Hid (profB x = (allK (stepB ringB joinB x.rings) x.rings.length && decide (heightS x.rings ≤ 300000))) := (by unfold profB; rw [hN, decide_eq_true hz1, decide_eq_true hz2]; simp : profB x = (allK (stepB ringB joinB x.rings) x.rings.length && decide (heightS x.rings ≤ 300000)))
  have HN := Lib.hid hN; clear hN
  have HCF := Lib.hid (fun w' (hb : Below w.heap.size w w') => ContainsFunc_ValidProfile1 w' (.slice lo x.rings.length lc) x.rings (fun r => !ringB r) (HRD.out.up hb) hn (fun wr hb k hk => impl_ValidProfile1 x.rings[k] wr))
  have HXH := Lib.hid (fun w' (hb : Below w.heap.size w w') hv => impl_height w' x lo lc (HRD.out.up hb) hz2 hv)
  generalize hrs : x.rings = rs at *
  clear hrs
  cases hA : rs.any (fun r => !ringB r)
  case true =>
    have e : Hid (profB x = false) := (by
      rw [es.out]
      cases hk : allK (stepB ringB joinB rs) rs.length
      · rfl
      · rw [any_ring.2 (rings_all hk)] at hA; exact Bool.noConfusion hA : profB x = false)
    rw [hA] at HCF
    clear hsome hnil hA
    go_enter Tryz.func95, Tryz.ntmps95
    go_wp2_with fail
    refine (impl_IsName_is _ _ HI.out HN.out).mono ?_; rintro e1 w1 ⟨rfl, b1⟩
    have HB1 := Lib.hid (show Below w.heap.size w w1 from Below.trans (by (repeat' (first | (with_reducible exact Below.refl _ _) | (with_reducible assumption) | (with_reducible refine below_dn ?_ _) | (with_reducible refine Below.drew ?_) | (with_reducible refine Below.alloc ?_ ?_ _) | (with_reducible refine Below.setCell ?_ ?_ _) | go_size))) (b1.mono (by simp <;> omega)))
    obtain ⟨hc, hf⟩ := bcell b1
    clear b1
    go_wp2_with fail
    clear hc hf
    refine (HCF.out _ HB1.out).mono ?_; rintro e2 w2 ⟨rfl, b2⟩
    have HB2 := Lib.hid (bnext HB1.out b2); clear b2
    go_wp2_with fail
    go_ret
    exact ⟨by rw [e.out]; rfl, HB2.out⟩
  have hv := any_ring.1 hA
  rw [hA] at HCF
  have HV := Lib.hid hv
  clear hA hv
  go_enter Tryz.func95, Tryz.ntmps95
  go_wp2_with fail
  refine (impl_IsName_is _ _ HI.out HN.out).mono ?_; rintro e1 w1 ⟨rfl, b1⟩
  have HB1 := Lib.hid (show Below w.heap.size w w1 from Below.trans (by (repeat' (first | (with_reducible exact Below.refl _ _) | (with_reducible assumption) | (with_reducible refine below_dn ?_ _) | (with_reducible refine Below.drew ?_) | (with_reducible refine Below.alloc ?_ ?_ _) | (with_reducible refine Below.setCell ?_ ?_ _) | go_size))) (b1.mono (by simp <;> omega)))
  have HO1 := Lib.hid (HOW.out.below b1 HOW.out.lt)
  obtain ⟨hc, hf⟩ := bcell b1
  clear b1
  go_wp2_with fail
  clear hc hf
  refine (HCF.out _ HB1.out).mono ?_; rintro e2 w2 ⟨rfl, b2⟩
  have HB2 := Lib.hid (bnext HB1.out b2)
  have HO2 := Lib.hid (HO1.out.below b2 HO1.out.lt); clear b2 HCF HOW HO1
  go_wp2_with fail
  go_loopw [3] (fun i wr => ∃ (k : Nat), 1 ≤ k ∧ k ≤ rs.length ∧ i = .int .i64 k ∧ allK (stepB ringB joinB rs) k = true ∧ Own wr w.heap.size 43 [.string x.name, .slice lo rs.length lc] ∧ Below w.heap.size w wr) (fun i _ => rs.length - (intOf i).toNat)
  case atStart => exact ⟨1, by omega, hz1, rfl, by show (true && stepB ringB joinB rs 0) = true; rw [stepB_zero (by omega) (HV.out _ (List.getElem_mem _))]; rfl, HO2.out, HB2.out⟩
  case round =>
    clear HB1 HB2 HO2
    obtain ⟨k, hk1, hk, rfl, hall, how, hb⟩ := hrel
    have Hall := Lib.hid hall; clear hall
    have r0 : wr.cell? ⟨w.heap.size, 0, none⟩ = some (.string x.name) := how.cell 0
    have r1 : wr.cell? ⟨w.heap.size, 1, none⟩ = some (.slice lo rs.length lc) := how.cell 1
    have hlo := how.lt
    have HOW := Lib.hid how; clear how
    by_cases hlt : k < rs.length
    · obtain ⟨b, off, rfl, hbB, hc⟩ := hsome (by omega)
      have c0 : wr.cell? ⟨b, off + k * 3, none⟩ = some (.int .i64 rs[k].outer) := by rw [show off + k * 3 = off + (k * 3 + 0) from by omega, hb.cell (p := ⟨b, off + (k * 3 + 0), none⟩) hbB, hc (k * 3 + 0) (by omega), Ring_get0 rs k hlt]
      have c1 : wr.cell? ⟨b, off + k * 3 + 1, none⟩ = some (.int .i64 rs[k].inner) := by rw [show off + k * 3 + 1 = off + (k * 3 + 1) from by omega, hb.cell (p := ⟨b, off + (k * 3 + 1), none⟩) hbB, hc (k * 3 + 1) (by omega), Ring_get1 rs k hlt]
      have c2 : wr.cell? ⟨b, off + k * 3 + 2, none⟩ = some (.int .i64 rs[k].height) := by rw [show off + k * 3 + 2 = off + (k * 3 + 2) from by omega, hb.cell (p := ⟨b, off + (k * 3 + 2), none⟩) hbB, hc (k * 3 + 2) (by omega), Ring_get2 rs k hlt]
      have d0 : wr.cell? ⟨b, off + (k - 1) * 3, none⟩ = some (.int .i64 rs[k - 1].outer) := by rw [show off + (k - 1) * 3 = off + ((k - 1) * 3 + 0) from by omega, hb.cell (p := ⟨b, off + ((k - 1) * 3 + 0), none⟩) hbB, hc ((k - 1) * 3 + 0) (by omega), Ring_get0 rs (k - 1) (by omega)]
      have d1 : wr.cell? ⟨b, off + (k - 1) * 3 + 1, none⟩ = some (.int .i64 rs[k - 1].inner) := by rw [show off + (k - 1) * 3 + 1 = off + ((k - 1) * 3 + 1) from by omega, hb.cell (p := ⟨b, off + ((k - 1) * 3 + 1), none⟩) hbB, hc ((k - 1) * 3 + 1) (by omega), Ring_get1 rs (k - 1) (by omega)]
      have d2 : wr.cell? ⟨b, off + (k - 1) * 3 + 2, none⟩ = some (.int .i64 rs[k - 1].height) := by rw [show off + (k - 1) * 3 + 2 = off + ((k - 1) * 3 + 2) from by omega, hb.cell (p := ⟨b, off + ((k - 1) * 3 + 2), none⟩) hbB, hc ((k - 1) * 3 + 2) (by omega), Ring_get2 rs (k - 1) (by omega)]
      have hbr : b < wr.heap.size := Nat.lt_of_lt_of_le hbB hb.size
      have HS := Lib.hid (allK_succ (stepB ringB joinB rs) k)
      have HF := Lib.hid (allK_false (stepB ringB joinB rs) rs.length k hlt)
      have hO := Lib.hid (HV.out rs[k] (List.getElem_mem hlt))
      have hws := hb.size
      have HB := Lib.hid hb
      clear hc hsome hnil hb
      have hpos : 0 < k := by omega
      by_cases hA : rs[k].outer ≤ rs[k - 1].inner
      · have e : Hid (profB x = false) := (by rw [es.out, HF.out (stepB_lt hlt hpos hO.out (by unfold joinB; rw [decide_eq_false (by omega)]; rfl))]; rfl : profB x = false)
        go_wp2_with fail
        go_region
        all_goals
          go_wp2_with fail
          go_ret
          exact ⟨by rw [e.out]; rfl, by have hb := HB.out; (repeat' (first | (with_reducible exact Below.refl _ _) | (with_reducible assumption) | (with_reducible refine below_dn ?_ _) | (with_reducible refine Below.drew ?_) | (with_reducible refine Below.alloc ?_ ?_ _) | (with_reducible refine Below.setCell ?_ ?_ _) | go_size))⟩
      by_cases hA2 : rs[k - 1].outer ≤ rs[k].inner
      · have e : Hid (profB x = false) := (by rw [es.out, HF.out (stepB_lt hlt hpos hO.out (by unfold joinB; rw [decide_eq_false (p := rs[k].inner < rs[k - 1].outer) (by omega)]; simp))]; rfl : profB x = false)
        go_wp2_with fail
        go_region
        all_goals
          go_wp2_with fail
          go_ret
          exact ⟨by rw [e.out]; rfl, by have hb := HB.out; (repeat' (first | (with_reducible exact Below.refl _ _) | (with_reducible assumption) | (with_reducible refine below_dn ?_ _) | (with_reducible refine Below.drew ?_) | (with_reducible refine Below.alloc ?_ ?_ _) | (with_reducible refine Below.setCell ?_ ?_ _) | go_size))⟩
      · have e : Hid (allK (stepB ringB joinB rs) (k + 1) = true) := (by rw [HS.out, Hall.out, stepB_yes hlt hpos hO.out (by unfold joinB; rw [decide_eq_true (by omega), decide_eq_true (by omega)]; rfl)]; rfl : allK (stepB ringB joinB rs) (k + 1) = true)
        go_wp2_with fail
        go_region
        all_goals
          go_wp2_with fail
          go_roundw
          case rel => exact ⟨k + 1, by omega, by omega, by go_num, e.out, HOW.out.below (B := wr.heap.size) (by (repeat' (first | (with_reducible exact Below.refl _ _) | (with_reducible assumption) | (with_reducible refine below_dn ?_ _) | (with_reducible refine Below.drew ?_) | (with_reducible refine Below.alloc ?_ ?_ _) | (with_reducible refine Below.setCell ?_ ?_ _) | go_size))) hlo, by have hb := HB.out; (repeat' (first | (with_reducible exact Below.refl _ _) | (with_reducible assumption) | (with_reducible refine below_dn ?_ _) | (with_reducible refine Below.drew ?_) | (with_reducible refine Below.alloc ?_ ?_ _) | (with_reducible refine Below.setCell ?_ ?_ _) | go_size))⟩
          case measure => simp [intOf]; omega
    · have hall : allK (stepB ringB joinB rs) rs.length = true := by
        obtain rfl : k = rs.length := by omega
        exact Hall.out
      have e : Hid (profB x = decide (heightS rs ≤ 300000)) := (by rw [es.out, hall]; rfl : profB x = decide (heightS rs ≤ 300000))
      have HB := Lib.hid hb
      clear hsome hnil hb hall
      have HX := Lib.hid (HXH.out wr HB.out HV.out)
      clear HXH
      generalize heightS rs = hh at *
      go_wp2_with fail
      refine HX.out.mono ?_; rintro e1 w1 ⟨rfl, b1⟩
      go_wp2_with fail
      go_ret
      exact ⟨by rw [e.out]; rfl, bnext HB.out b1⟩
end Go.Proofs.YtcjekailcljaaaaGreat
