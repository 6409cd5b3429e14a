/- Contracts and plain facts, joined: ValidMelts. -/
import Derived.Test.YtnbodmbagendnaaGreatDoorRows
import Derived.Test.YtnbodmbagendnaaGreatDoorZFnMeltsN
import Derived.Test.YtnbodmbagendnaaGreatDoorZFnMeltsO
import Derived.Test.YtnbodmbagendnaaGreatDoorZFnMeltsP
namespace Go.Proofs.YtnbodmbagendnaaGreatDoor
open Go.ChangeShapes Go.WideShapes Go.ChangeAt Go.RowKit Go.Deep Go.Joins
set_option linter.unusedVariables false
set_option maxRecDepth 100000
set_option linter.unusedSimpArgs false
theorem spec_l14One_is {b : Bool} (x : Melt) (a o : Nat) (w : World) (hx : x.ok w) (hn : x.ingots.length ≤ 1048576) (h0 : w.cell? ⟨a, o, none⟩ = some (.string x.id)) (h1 : w.cell? ⟨a, o + 1, none⟩ = some x.list) (h2 : w.cell? ⟨a, o + 2, none⟩ = some (.int .i64 x.mass)) (ha : a < w.heap.size) (hb : meltB x = b) :
    Calls Tryz.prog 76 #[.pointer (some ⟨a, o, none⟩)] w fun e w' => e = .returned (.bool b) ∧ Below w.heap.size w w' := by
  subst hb; exact spec_l14One x a o w hx hn h0 h1 h2 ha
theorem spec_l14One_above {b : Bool} (x : Melt) (a o : Nat) (W x0 : World) (hx : x.ok W) (hn : x.ingots.length ≤ 1048576) (h0 : W.cell? ⟨a, o, none⟩ = some (.string x.id)) (h1 : W.cell? ⟨a, o + 1, none⟩ = some x.list) (h2 : W.cell? ⟨a, o + 2, none⟩ = some (.int .i64 x.mass)) (ha : a < W.heap.size) (hb : meltB x = b) :
    Calls Tryz.prog 76 #[.pointer (some ⟨a, o, none⟩)] (above W x0) fun e w' => e = .returned (.bool b) ∧ ∃ m, w' = above W m :=
  aboveC (spec_l14One_is x a o _ (hx.up (above_below _ _)) hn ((above_cell ha).trans h0) ((above_cell ha).trans h1) ((above_cell ha).trans h2) (Nat.lt_of_lt_of_le ha (above_below _ _).size) hb)
theorem spec_l14Common_above {b0 : Bool} (W x0 : World) (a1 o1 a2 o2 : Nat) (v1 v2 : Value) (xs ys : List ByteArray) (g1 : W.cell? ⟨a1, o1 + 1, none⟩ = some v1) (g2 : W.cell? ⟨a2, o2 + 1, none⟩ = some v2) (ha1 : a1 < W.heap.size) (ha2 : a2 < W.heap.size)
    (h1 : Rd W.heap.size W v1 1 xs.length (xs.flatMap putStr)) (h2 : Rd W.heap.size W v2 1 ys.length (ys.flatMap putStr)) (hn : xs.length ≤ 1048576) (hn2 : ys.length ≤ 1048576) (hb0 : commonB xs ys = b0) :
    Calls Tryz.prog 77 #[.pointer (some ⟨a1, o1, none⟩), .pointer (some ⟨a2, o2, none⟩)] (above W x0) fun e w' => e = .returned (.bool b0) ∧ ∃ m, w' = above W m :=
  aboveC (spec_l14Common _ a1 o1 a2 o2 v1 v2 xs ys ((above_cell ha1).trans g1) ((above_cell ha2).trans g2) (Nat.lt_of_lt_of_le ha1 (above_below _ _).size) (Nat.lt_of_lt_of_le ha2 (above_below _ _).size) (h1.up (above_below _ _)) (h2.up (above_below _ _)) hn hn2 hb0)

set_option maxHeartbeats 4000000 in
theorem spec_l14Ok (w : World) (v : Value) (xs : List Melt) (h : RdM w.heap.size w v xs) (hn : xs.length ≤ 1048576) (hf : ∀ x ∈ xs, x.fine) :
    Calls Tryz.prog 40 #[v] w fun e w' => e = .returned (.bool (meltsB xs)) ∧ Below w.heap.size w w' := by
  have HRD := Lib.hid h
  obtain ⟨ao, cap, rfl, hcap, hmax, hsome⟩ := h
  have Hf := Lib.hid hf; clear hf
  go_enter Tryz.func40, Tryz.ntmps40
  go_wp2
  go_loopw [3, 4] (fun i _ wr => ∃ (k : Nat), k ≤ xs.length ∧ i = .int .i64 k ∧ allK (meltsAt xs) k = true ∧ Below w.heap.size w wr) (fun i _ _ => xs.length - (intOf i).toNat)
  case atStart => exact ⟨0, Nat.zero_le _, rfl, rfl, Below.refl _ _⟩
  case round =>
    obtain ⟨k, hk, rfl, hall, hb⟩ := hrel
    have Hall := Lib.hid hall; clear hall
    by_cases hlt : k < xs.length
    · obtain ⟨b, off, rfl, hbB, hc⟩ := hsome (by omega)
      obtain ⟨l, p0, p1, p2, hr⟩ := hc k hlt
      obtain ⟨lo, lc, rfl⟩ := hr.form
      have c0 := (hb.cell (p := ⟨b, off + k * 3, none⟩) hbB).trans p0
      have c1 := (hb.cell (p := ⟨b, off + k * 3 + 1, none⟩) hbB).trans p1
      have c2 := (hb.cell (p := ⟨b, off + k * 3 + 2, none⟩) hbB).trans p2
      have hbr : b < wr.heap.size := Nat.lt_of_lt_of_le hbB hb.size
      have hws := hb.size
      have HR := Lib.hid (hr.up hb)
      have HS := Lib.hid (allK_succ (meltsAt xs) k)
      have HF := Lib.hid (allK_false (meltsAt xs) xs.length k hlt)
      have hfk := Lib.hid (Hf.out xs[k] (List.getElem_mem hlt))
      have hnk : xs[k].ingots.length ≤ 1048576 := hfk.out.2.2.2
      have HC := Lib.hid hc
      have HB := Lib.hid hb
      have hok : Hid (Melt.ok wr ⟨xs[k].id, .slice lo xs[k].ingots.length lc, xs[k].ingots, xs[k].mass⟩) := ⟨hfk.out.1, ⟨HR.out, Nat.le_trans hnk (by unfold maxLen; omega), hfk.out.2.1⟩, hfk.out.2.2.1⟩
      clear hc hsome hb p0 p1 p2 hr
      cases hO : meltB xs[k]
      · have e : Hid (meltsB xs = false) := (meltsB_no (HF.out (meltsAt_no hlt hO)) : meltsB xs = false)
        have HO := Lib.hid hO; clear hO
        go_wp2_with fail
        refine wp_region_above (by kernel_rfl) (by kernel_rfl) ?_
        repeat (go_big_quiet_step (((go_at_call 76; exact spec_l14One_above ⟨xs[k].id, .slice lo xs[k].ingots.length lc, xs[k].ingots, xs[k].mass⟩ _ _ _ _ hok.out hnk c0 c1 c2 hbr HO.out))))
        refine wpQuiet_nil ?_
        intro w1 b1
        have HB1 := Lib.hid (HB.out.trans (b1.mono HB.out.size)); clear b1 HB
        go_wp2_with fail
        go_ret
        exact ⟨by rw [e.out]; rfl, HB1.out⟩
      by_cases hk0 : k = 0
      · have HO := Lib.hid hO; clear hO
        have hz : decide (0 < k) = false := decide_eq_false (by omega)
        have HT : Hid (ltPrev xs k = true) := (ltPrev_zero hk0 : ltPrev xs k = true)
        have Hk0 := Lib.hid hk0; clear hk0
        go_wp2_with fail
        refine wp_region_above (by kernel_rfl) (by kernel_rfl) ?_
        repeat (go_big_quiet_step (((go_at_call 76; exact spec_l14One_above ⟨xs[k].id, .slice lo xs[k].ingots.length lc, xs[k].ingots, xs[k].mass⟩ _ _ _ _ hok.out hnk c0 c1 c2 hbr HO.out))))
        refine wpQuiet_nil ?_
        intro w1 b1
        have HB1 := Lib.hid (HB.out.trans (b1.mono HB.out.size)); clear b1 HB
        clear c0 c1 c2 HR hok hnk hws hbr
        have Hcom : Hid (∀ (wr : World), Below w.heap.size w wr → ∀ m (hm : m < xs.length), ∃ lo lc, wr.cell? ⟨b, off + m * 3 + 1, none⟩ = some (.slice lo xs[m].ingots.length lc) ∧ b < wr.heap.size ∧ Rd wr.heap.size wr (.slice lo xs[m].ingots.length lc) 1 xs[m].ingots.length (xs[m].ingots.flatMap putStr)) := (by
          intro wr hb m hm
          obtain ⟨l, p0, p1, p2, hr⟩ := HC.out m hm
          obtain ⟨lo, lc, rfl⟩ := hr.form
          exact ⟨lo, lc, (hb.cell (p := ⟨b, off + m * 3 + 1, none⟩) hbB).trans p1, Nat.lt_of_lt_of_le hbB hb.size, hr.up hb⟩)
        clear HC
        go_wp2_with fail
        obtain ⟨wo, rfl⟩ : ∃ wo : World, wo = w1 := ⟨_, rfl⟩
        go_loopw [4] (fun j wr => ∃ (m : Nat), m ≤ k ∧ j = .int .i64 m ∧ (xs.take m).any (fun y => commonB y.ingots xs[k].ingots) = false ∧ Below w.heap.size w wr) (fun j _ => k - (intOf j).toNat)
        case atStart => exact ⟨0, Nat.zero_le _, rfl, rfl, HB1.out⟩
        case round =>
          obtain ⟨m, hm, rfl, hall2, hb⟩ := hrel
          have Hall2 := Lib.hid hall2; clear hall2 HB1
          by_cases hlt2 : m < k
          · have hmx : m < xs.length := by omega
            obtain ⟨l1, q1, c1, hbr, r1⟩ := Hcom.out wr hb m hmx
            obtain ⟨l2, q2, c2, _, r2⟩ := Hcom.out wr hb k hlt
            have R1 := Lib.hid r1; clear r1
            have R2 := Lib.hid r2; clear r2
            have HB := Lib.hid hb; clear hb Hcom
            have hfm : xs[m].ingots.length ≤ 1048576 := (Hf.out xs[m] (List.getElem_mem hmx)).2.2.2
            have hfk2 : xs[k].ingots.length ≤ 1048576 := hfk.out.2.2.2
            cases hE : commonB xs[m].ingots xs[k].ingots
            · have e : Hid ((xs.take (m + 1)).any (fun y => commonB y.ingots xs[k].ingots) = false) := (by rw [any_take xs m hmx, Hall2.out, hE]; rfl : (xs.take (m + 1)).any (fun y => commonB y.ingots xs[k].ingots) = false)
              have HE := Lib.hid hE; clear hE
              go_wp2_with fail
              refine wp_region_above (by kernel_rfl) (by kernel_rfl) ?_
              repeat (go_big_quiet_step (((go_at_call 77; exact spec_l14Common_above _ _ _ _ _ _ _ _ xs[m].ingots xs[k].ingots c1 c2 hbr hbr R1.out R2.out hfm hfk2 HE.out))))
              refine wpQuiet_nil ?_
              intro w2 b2
              have HB1 := Lib.hid (HB.out.trans (b2.mono HB.out.size)); clear b2 HB
              go_wp2_with fail
              go_roundw
              case rel => exact ⟨m + 1, by omega, by go_num, e.out, HB1.out⟩
              case measure => simp [intOf]; omega
            · have e : Hid (meltsB xs = false) := (meltsB_no (HF.out (meltsAt_com hlt (any_upto hmx (by omega) hE))) : meltsB xs = false)
              have HE := Lib.hid hE; clear hE
              go_wp2_with fail
              refine wp_region_above (by kernel_rfl) (by kernel_rfl) ?_
              repeat (go_big_quiet_step (((go_at_call 77; exact spec_l14Common_above _ _ _ _ _ _ _ _ xs[m].ingots xs[k].ingots c1 c2 hbr hbr R1.out R2.out hfm hfk2 HE.out))))
              refine wpQuiet_nil ?_
              intro w2 b2
              have HB1 := Lib.hid (HB.out.trans (b2.mono HB.out.size)); clear b2 HB
              go_wp2_with fail
              go_ret
              exact ⟨by rw [e.out]; rfl, HB1.out⟩
          · have e : Hid (allK (meltsAt xs) (k + 1) = true) := (by
              obtain rfl : m = k := by omega
              rw [HS.out, Hall.out]; exact meltsAt_yes hlt HO.out HT.out Hall2.out : allK (meltsAt xs) (k + 1) = true)
            have HB := Lib.hid hb; clear hb Hcom
            go_wp2
            go_roundw
            case rel => exact ⟨k + 1, by omega, by go_num, e.out, HB.out⟩
            case measure => simp [intOf]; omega
      have hpos : 0 < k := by omega
      have hz : decide (0 < k) = true := decide_eq_true (by omega)
      clear hk0
      obtain ⟨l0, p0, _, _, hr0⟩ := HC.out (k - 1) (by omega)
      have d0 := (HB.out.cell (p := ⟨b, off + (k - 1) * 3, none⟩) hbB).trans p0
      clear p0 hr0
      cases hT : ltName xs[k - 1].id xs[k].id
      · have e : Hid (meltsB xs = false) := (meltsB_no (HF.out (meltsAt_lt hlt (ltPrev_no hlt hpos hT))) : meltsB xs = false)
        have t1 := ltName_spec_f hT
        have HO := Lib.hid hO; clear hO hT
        go_wp2_with fail
        refine wp_region_above (by kernel_rfl) (by kernel_rfl) ?_
        repeat (go_big_quiet_step (((go_at_call 76; exact spec_l14One_above ⟨xs[k].id, .slice lo xs[k].ingots.length lc, xs[k].ingots, xs[k].mass⟩ _ _ _ _ hok.out hnk c0 c1 c2 hbr HO.out))))
        refine wpQuiet_nil ?_
        intro w1 b1
        have HB1 := Lib.hid (HB.out.trans (b1.mono HB.out.size)); clear b1 HB
        go_wp2_with fail
        go_ret
        exact ⟨by rw [e.out]; rfl, HB1.out⟩
      · have HO := Lib.hid hO; clear hO
        have t1 := ltName_spec_t hT
        have HT : Hid (ltPrev xs k = true) := (ltPrev_yes hlt hpos hT : ltPrev xs k = true)
        clear hT
        go_wp2_with fail
        refine wp_region_above (by kernel_rfl) (by kernel_rfl) ?_
        repeat (go_big_quiet_step (((go_at_call 76; exact spec_l14One_above ⟨xs[k].id, .slice lo xs[k].ingots.length lc, xs[k].ingots, xs[k].mass⟩ _ _ _ _ hok.out hnk c0 c1 c2 hbr HO.out))))
        refine wpQuiet_nil ?_
        intro w1 b1
        have HB1 := Lib.hid (HB.out.trans (b1.mono HB.out.size)); clear b1 HB
        clear c0 c1 c2 HR hok hnk hws hbr
        have Hcom : Hid (∀ (wr : World), Below w.heap.size w wr → ∀ m (hm : m < xs.length), ∃ lo lc, wr.cell? ⟨b, off + m * 3 + 1, none⟩ = some (.slice lo xs[m].ingots.length lc) ∧ b < wr.heap.size ∧ Rd wr.heap.size wr (.slice lo xs[m].ingots.length lc) 1 xs[m].ingots.length (xs[m].ingots.flatMap putStr)) := (by
          intro wr hb m hm
          obtain ⟨l, p0, p1, p2, hr⟩ := HC.out m hm
          obtain ⟨lo, lc, rfl⟩ := hr.form
          exact ⟨lo, lc, (hb.cell (p := ⟨b, off + m * 3 + 1, none⟩) hbB).trans p1, Nat.lt_of_lt_of_le hbB hb.size, hr.up hb⟩)
        clear HC
        go_wp2_with fail
        obtain ⟨wo, rfl⟩ : ∃ wo : World, wo = w1 := ⟨_, rfl⟩
        go_loopw [4] (fun j wr => ∃ (m : Nat), m ≤ k ∧ j = .int .i64 m ∧ (xs.take m).any (fun y => commonB y.ingots xs[k].ingots) = false ∧ Below w.heap.size w wr) (fun j _ => k - (intOf j).toNat)
        case atStart => exact ⟨0, Nat.zero_le _, rfl, rfl, HB1.out⟩
        case round =>
          obtain ⟨m, hm, rfl, hall2, hb⟩ := hrel
          have Hall2 := Lib.hid hall2; clear hall2 HB1
          by_cases hlt2 : m < k
          · have hmx : m < xs.length := by omega
            obtain ⟨l1, q1, c1, hbr, r1⟩ := Hcom.out wr hb m hmx
            obtain ⟨l2, q2, c2, _, r2⟩ := Hcom.out wr hb k hlt
            have R1 := Lib.hid r1; clear r1
            have R2 := Lib.hid r2; clear r2
            have HB := Lib.hid hb; clear hb Hcom
            have hfm : xs[m].ingots.length ≤ 1048576 := (Hf.out xs[m] (List.getElem_mem hmx)).2.2.2
            have hfk2 : xs[k].ingots.length ≤ 1048576 := hfk.out.2.2.2
            cases hE : commonB xs[m].ingots xs[k].ingots
            · have e : Hid ((xs.take (m + 1)).any (fun y => commonB y.ingots xs[k].ingots) = false) := (by rw [any_take xs m hmx, Hall2.out, hE]; rfl : (xs.take (m + 1)).any (fun y => commonB y.ingots xs[k].ingots) = false)
              have HE := Lib.hid hE; clear hE
              go_wp2_with fail
              refine wp_region_above (by kernel_rfl) (by kernel_rfl) ?_
              repeat (go_big_quiet_step (((go_at_call 77; exact spec_l14Common_above _ _ _ _ _ _ _ _ xs[m].ingots xs[k].ingots c1 c2 hbr hbr R1.out R2.out hfm hfk2 HE.out))))
              refine wpQuiet_nil ?_
              intro w2 b2
              have HB1 := Lib.hid (HB.out.trans (b2.mono HB.out.size)); clear b2 HB
              go_wp2_with fail
              go_roundw
              case rel => exact ⟨m + 1, by omega, by go_num, e.out, HB1.out⟩
              case measure => simp [intOf]; omega
            · have e : Hid (meltsB xs = false) := (meltsB_no (HF.out (meltsAt_com hlt (any_upto hmx (by omega) hE))) : meltsB xs = false)
              have HE := Lib.hid hE; clear hE
              go_wp2_with fail
              refine wp_region_above (by kernel_rfl) (by kernel_rfl) ?_
              repeat (go_big_quiet_step (((go_at_call 77; exact spec_l14Common_above _ _ _ _ _ _ _ _ xs[m].ingots xs[k].ingots c1 c2 hbr hbr R1.out R2.out hfm hfk2 HE.out))))
              refine wpQuiet_nil ?_
              intro w2 b2
              have HB1 := Lib.hid (HB.out.trans (b2.mono HB.out.size)); clear b2 HB
              go_wp2_with fail
              go_ret
              exact ⟨by rw [e.out]; rfl, HB1.out⟩
          · have e : Hid (allK (meltsAt xs) (k + 1) = true) := (by
              obtain rfl : m = k := by omega
              rw [HS.out, Hall.out]; exact meltsAt_yes hlt HO.out HT.out Hall2.out : allK (meltsAt xs) (k + 1) = true)
            have HB := Lib.hid hb; clear hb Hcom
            go_wp2
            go_roundw
            case rel => exact ⟨k + 1, by omega, by go_num, e.out, HB.out⟩
            case measure => simp [intOf]; omega
    · have e : Hid (allK (meltsAt xs) xs.length = true) := (by
        obtain rfl : k = xs.length := by omega
        exact Hall.out : allK (meltsAt xs) xs.length = true)
      have e2 : Hid (meltsB xs = decide ((xs.length : Int) ≤ 12)) := (by unfold meltsB; rw [e.out, Bool.true_and]; congr 1; exact propext ⟨fun h => by omega, fun h => by omega⟩ : meltsB xs = decide ((xs.length : Int) ≤ 12))
      clear HRD
      go_wp2
      go_ret
      exact ⟨by rw [e2.out]; rfl, hb⟩

theorem impl_ValidMelts1 {b0 : Bool} (x y : Melt) (g : Nat) (l1 l2 : Value) (w : World) (g0 : w.cell? ⟨g, 0, none⟩ = some (.string x.id)) (g1 : w.cell? ⟨g, 1, none⟩ = some l1) (g2 : w.cell? ⟨g, 2, none⟩ = some (.int .i64 x.mass)) (hg : g < w.heap.size)
    (h1 : Rd w.heap.size w l1 1 x.ingots.length (x.ingots.flatMap putStr)) (h2 : Rd w.heap.size w l2 1 y.ingots.length (y.ingots.flatMap putStr)) (hn : x.ingots.length ≤ 1048576) (hn2 : y.ingots.length ≤ 1048576) (hb0 : commonB x.ingots y.ingots = b0) :
    Calls Tryz.prog 54 #[.agg #[.string y.id, l2, .int .i64 y.mass], .pointer (some ⟨g, 0, none⟩)] w fun e w' => e = .returned (.bool b0) ∧ Below w.heap.size w w' := by
  subst hb0
  obtain ⟨lo, lc, rfl⟩ := h1.form
  obtain ⟨lo2, lc2, rfl⟩ := h2.form
  have H1 := Lib.hid h1; clear h1
  have H2 := Lib.hid h2; clear h2
  go_enter Tryz.func54, Tryz.ntmps54
  go_wp2_with fail
  refine (impl_shares x y _ _ _ (by exact H1.out.up (by (repeat' (first | (with_reducible exact Below.refl _ _) | (with_reducible assumption) | (with_reducible refine below_dn ?_ _) | (with_reducible refine Below.drew ?_) | (with_reducible refine Below.alloc ?_ ?_ _) | (with_reducible refine Below.setCell ?_ ?_ _) | go_size)))) (by exact H2.out.up (by (repeat' (first | (with_reducible exact Below.refl _ _) | (with_reducible assumption) | (with_reducible refine below_dn ?_ _) | (with_reducible refine Below.drew ?_) | (with_reducible refine Below.alloc ?_ ?_ _) | (with_reducible refine Below.setCell ?_ ?_ _) | go_size)))) hn hn2 rfl).mono ?_; rintro e w1 ⟨rfl, b1⟩
  go_wp2_with fail
  go_ret
  exact ⟨rfl, Below.trans (by (repeat' (first | (with_reducible exact Below.refl _ _) | (with_reducible assumption) | (with_reducible refine below_dn ?_ _) | (with_reducible refine Below.drew ?_) | (with_reducible refine Below.alloc ?_ ?_ _) | (with_reducible refine Below.setCell ?_ ?_ _) | go_size))) (b1.mono (by simp <;> omega))⟩

set_option maxHeartbeats 1000000 in
theorem IndexFunc_ValidMelts1 (g : Nat) (w : World) (v : Value) (xs : List Melt) (p : Melt → Bool) (h : RdM w.heap.size w v xs) (hn : xs.length ≤ 1048576)
    (H : ∀ (wr : World) (hb : Below w.heap.size w wr) (k : Nat) (hk : k < xs.length) (lo : Option Addr) (lc : Nat) (hr : Rd wr.heap.size wr (.slice lo xs[k].ingots.length lc) 1 xs[k].ingots.length (xs[k].ingots.flatMap putStr)), Calls Tryz.prog 54 #[.agg #[.string xs[k].id, .slice lo xs[k].ingots.length lc, .int .i64 xs[k].mass], .pointer (some ⟨g, 0, none⟩)] wr fun e w' => e = .returned (.bool (p xs[k])) ∧ Below wr.heap.size wr w') :
    Calls Tryz.prog 61 #[v, .func (.func 54) #[] #[.pointer (some ⟨g, 0, none⟩)]] w fun e w' => (∃ r : Int, e = .returned (.int .i64 r) ∧ decide (0 ≤ r) = xs.any p) ∧ Below w.heap.size w w' := by
  obtain ⟨ao, cap, rfl, hcap, hmax, hsome⟩ := h
  go_enter Tryz.func61, Tryz.ntmps61
  have HH := Lib.hid H; clear H
  go_wp2
  go_loopw [8] (fun i wr => ∃ (k : Nat), k ≤ xs.length ∧ i = .int .i64 k ∧ (xs.take k).any p = false ∧ Below w.heap.size w wr) (fun i _ => xs.length - (intOf i).toNat)
  case atStart => exact ⟨0, Nat.zero_le _, rfl, rfl, Below.refl _ _⟩
  case round =>
    obtain ⟨k, hk, rfl, hall, hb⟩ := hrel
    have Hall := Lib.hid hall; clear hall
    by_cases hlt : k < xs.length
    · obtain ⟨b, off, rfl, hbB, hc⟩ := hsome (by omega)
      obtain ⟨l, p0, p1, p2, hr⟩ := hc k hlt
      obtain ⟨lo, lc, rfl⟩ := hr.form
      have c0 := (hb.cell (p := ⟨b, off + k * 3, none⟩) hbB).trans p0
      have c1 := (hb.cell (p := ⟨b, off + k * 3 + 1, none⟩) hbB).trans p1
      have c2 := (hb.cell (p := ⟨b, off + k * 3 + 2, none⟩) hbB).trans p2
      have hbr : b < wr.heap.size := Nat.lt_of_lt_of_le hbB hb.size
      have HC := Lib.hid (HH.out wr hb k hlt lo lc (hr.up hb)); clear HH
      have HB := Lib.hid hb
      clear hc hsome hb p0 p1 p2 hr
      cases hO : p xs[k]
      all_goals rw [hO] at HC
      · have e : Hid ((xs.take (k + 1)).any p = false) := (by rw [any_take xs k hlt, Hall.out, hO]; rfl : (xs.take (k + 1)).any p = false)
        clear hO
        go_wp2_with fail
        go_at_call 54
        refine HC.out.mono ?_; rintro e1 w1 ⟨rfl, b1⟩
        have HB1 := Lib.hid (HB.out.trans (b1.mono HB.out.size)); clear b1 HB
        go_wp2_with fail
        go_roundw
        case rel => exact ⟨k + 1, by omega, by go_num, e.out, HB1.out⟩
        case measure => simp [intOf]; omega
      · have e : Hid (xs.any p = true) := (any_at xs k hlt hO : xs.any p = true)
        clear hO
        go_wp2_with fail
        go_at_call 54
        refine HC.out.mono ?_; rintro e1 w1 ⟨rfl, b1⟩
        have HB1 := Lib.hid (HB.out.trans (b1.mono HB.out.size)); clear b1 HB
        go_wp2_with fail
        go_ret
        exact ⟨⟨_, rfl, by rw [e.out]; simp⟩, HB1.out⟩
    · have e : Hid (xs.any p = false) := (by
        have := Hall.out
        rwa [List.take_of_length_le (by omega)] at this : xs.any p = false)
      clear HH
      go_wp2
      go_ret
      exact ⟨⟨_, rfl, by rw [e.out]; rfl⟩, hb⟩

theorem ContainsFunc_ValidMelts1 (g : Nat) (w : World) (v : Value) (xs : List Melt) (p : Melt → Bool) (h : RdM w.heap.size w v xs) (hn : xs.length ≤ 1048576)
    (H : ∀ (wr : World) (hb : Below w.heap.size w wr) (k : Nat) (hk : k < xs.length) (lo : Option Addr) (lc : Nat) (hr : Rd wr.heap.size wr (.slice lo xs[k].ingots.length lc) 1 xs[k].ingots.length (xs[k].ingots.flatMap putStr)), Calls Tryz.prog 54 #[.agg #[.string xs[k].id, .slice lo xs[k].ingots.length lc, .int .i64 xs[k].mass], .pointer (some ⟨g, 0, none⟩)] wr fun e w' => e = .returned (.bool (p xs[k])) ∧ Below wr.heap.size wr w') :
    Calls Tryz.prog 25 #[v, .func (.func 54) #[] #[.pointer (some ⟨g, 0, none⟩)]] w fun e w' => e = .returned (.bool (xs.any p)) ∧ Below w.heap.size w w' := by
  have H2 := Lib.hid (IndexFunc_ValidMelts1 g w v xs p h hn H)
  clear h H
  go_enter Tryz.func25, Tryz.ntmps25
  go_wp2_with fail
  refine H2.out.mono ?_; rintro e w1 ⟨⟨r, rfl, hr⟩, b1⟩
  have Hr := Lib.hid hr; clear hr
  go_wp2_with fail
  go_ret
  exact ⟨by rw [← Hr.out]; rfl, b1⟩

set_option maxHeartbeats 4000000 in
theorem impl_ValidMelts (w : World) (v : Value) (xs : List Melt) (h : RdM w.heap.size w v xs) (hn : xs.length ≤ 1048576) (hf : ∀ x ∈ xs, x.fine) :
    Calls Tryz.prog 21 #[v] w fun e w' => e = .returned (.bool (meltsB xs)) ∧ Below w.heap.size w w' := by
  have HRD := Lib.hid h
  obtain ⟨ao, cap, rfl, hcap, hmax, hsome⟩ := h
  have Hf := Lib.hid hf; clear hf
  go_enter Tryz.func21, Tryz.ntmps21
  go_wp2
  go_loopw [7] (fun i wr => ∃ (k : Nat), k ≤ xs.length ∧ i = .int .i64 k ∧ allK (meltsAt xs) k = true ∧ Below w.heap.size w wr) (fun i _ => xs.length - (intOf i).toNat)
  case atStart => exact ⟨0, Nat.zero_le _, rfl, rfl, Below.refl _ _⟩
  case round =>
    obtain ⟨k, hk, rfl, hall, hb⟩ := hrel
    have Hall := Lib.hid hall; clear hall
    by_cases hlt : k < xs.length
    · obtain ⟨b, off, rfl, hbB, hc⟩ := hsome (by omega)
      obtain ⟨l, p0, p1, p2, hr⟩ := hc k hlt
      obtain ⟨lo, lc, rfl⟩ := hr.form
      have c0 := (hb.cell (p := ⟨b, off + k * 3, none⟩) hbB).trans p0
      have c1 := (hb.cell (p := ⟨b, off + k * 3 + 1, none⟩) hbB).trans p1
      have c2 := (hb.cell (p := ⟨b, off + k * 3 + 2, none⟩) hbB).trans p2
      have hbr : b < wr.heap.size := Nat.lt_of_lt_of_le hbB hb.size
      have hws := hb.size
      have HR := Lib.hid (hr.up hb)
      have HS := Lib.hid (allK_succ (meltsAt xs) k)
      have HF := Lib.hid (allK_false (meltsAt xs) xs.length k hlt)
      have hfk := Lib.hid (Hf.out xs[k] (List.getElem_mem hlt))
      have hnk : xs[k].ingots.length ≤ 1048576 := hfk.out.2.2.2
      have HC := Lib.hid hc
      have HB := Lib.hid hb
      have hok : Hid (Melt.ok wr ⟨xs[k].id, .slice lo xs[k].ingots.length lc, xs[k].ingots, xs[k].mass⟩) := ⟨hfk.out.1, ⟨HR.out, Nat.le_trans hnk (by unfold maxLen; omega), hfk.out.2.1⟩, hfk.out.2.2.1⟩
      clear hc hsome hb p0 p1 p2 hr
      have hBX : Hid (Below w.heap.size w (wr.alloc (Obj.cells #[Value.string xs[k].id, Value.slice lo xs[k].ingots.length lc, Value.int IntKind.i64 xs[k].mass] 28))) := (HB.out.alloc HB.out.size _ : Below w.heap.size w (wr.alloc (Obj.cells #[Value.string xs[k].id, Value.slice lo xs[k].ingots.length lc, Value.int IntKind.i64 xs[k].mass] 28)))
      have hsz : (wr.alloc (Obj.cells #[Value.string xs[k].id, Value.slice lo xs[k].ingots.length lc, Value.int IntKind.i64 xs[k].mass] 28)).heap.size = wr.heap.size + 1 := by simp
      clear hsz
      have hok2 : Hid (Melt.ok (wr.alloc (Obj.cells #[Value.string xs[k].id, Value.slice lo xs[k].ingots.length lc, Value.int IntKind.i64 xs[k].mass] 28)) ⟨xs[k].id, .slice lo xs[k].ingots.length lc, xs[k].ingots, xs[k].mass⟩) := (hok.out.up (by (repeat' (first | (with_reducible exact Below.refl _ _) | (with_reducible assumption) | (with_reducible refine below_dn ?_ _) | (with_reducible refine Below.drew ?_) | (with_reducible refine Below.alloc ?_ ?_ _) | (with_reducible refine Below.setCell ?_ ?_ _) | go_size))) : Melt.ok (wr.alloc (Obj.cells #[Value.string xs[k].id, Value.slice lo xs[k].ingots.length lc, Value.int IntKind.i64 xs[k].mass] 28)) ⟨xs[k].id, .slice lo xs[k].ingots.length lc, xs[k].ingots, xs[k].mass⟩)
      have HOWN := Lib.hid (Own.new wr 28 [Value.string xs[k].id, Value.slice lo xs[k].ingots.length lc, Value.int IntKind.i64 xs[k].mass])
      cases hO : meltB xs[k]
      · have e : Hid (meltsB xs = false) := (meltsB_no (HF.out (meltsAt_no hlt hO)) : meltsB xs = false)
        have HO := Lib.hid hO; clear hO
        go_wp2_with fail
        refine wp_region_above (by kernel_rfl) (by kernel_rfl) ?_
        repeat (go_big_quiet_step (((go_at_call 22; exact aboveC (impl_ValidMelt_is ⟨xs[k].id, .slice lo xs[k].ingots.length lc, xs[k].ingots, xs[k].mass⟩ _ (by exact hok2.out.up (above_below _ _)) hnk HO.out)))))
        refine wpQuiet_nil ?_
        intro w1 b1
        have HOW1 := Lib.hid (HOWN.out.below b1 HOWN.out.lt)
        have HB1 := Lib.hid (hBX.out.trans (b1.mono hBX.out.size)); clear b1 HB HOWN hBX hok2
        go_wp2_with fail
        go_ret
        exact ⟨by rw [e.out]; rfl, HB1.out⟩
      by_cases hk0 : k = 0
      · have HO := Lib.hid hO; clear hO
        have hz : decide (0 < k) = false := decide_eq_false (by omega)
        have HT : Hid (ltPrev xs k = true) := (ltPrev_zero hk0 : ltPrev xs k = true)
        have Hk0 := Lib.hid hk0; clear hk0
        go_wp2_with fail
        refine wp_region_above (by kernel_rfl) (by kernel_rfl) ?_
        repeat (go_big_quiet_step (((go_at_call 22; exact aboveC (impl_ValidMelt_is ⟨xs[k].id, .slice lo xs[k].ingots.length lc, xs[k].ingots, xs[k].mass⟩ _ (by exact hok2.out.up (above_below _ _)) hnk HO.out)))))
        refine wpQuiet_nil ?_
        intro w1 b1
        have HBW := Lib.hid (Below.trans (show Below wr.heap.size wr _ by (repeat' (first | (with_reducible exact Below.refl _ _) | (with_reducible assumption) | (with_reducible refine below_dn ?_ _) | (with_reducible refine Below.drew ?_) | (with_reducible refine Below.alloc ?_ ?_ _) | (with_reducible refine Below.setCell ?_ ?_ _) | go_size))) (b1.mono (by simp <;> omega)))
        have HOW1 := Lib.hid (HOWN.out.below b1 HOWN.out.lt)
        have HB1 := Lib.hid (hBX.out.trans (b1.mono hBX.out.size)); clear b1 HB HOWN hBX hok2
        clear c0 c1 c2 hok HC hws
        have hlw : wr.heap.size < w1.heap.size := HOW1.out.lt
        have HRW := Lib.hid (HR.out.up (show Below wr.heap.size wr w1 from HBW.out))
        have HCL := Lib.hid (fun (wq : World) (hb : Below w1.heap.size w1 wq) (m : Nat) (hm : m < (xs.take k).length) (lo2 : Option Addr) (lc2 : Nat) (hr : Rd wq.heap.size wq (.slice lo2 (xs.take k)[m].ingots.length lc2) 1 (xs.take k)[m].ingots.length ((xs.take k)[m].ingots.flatMap putStr)) =>
          impl_ValidMelts1 xs[k] (xs.take k)[m] wr.heap.size (.slice lo xs[k].ingots.length lc) (.slice lo2 (xs.take k)[m].ingots.length lc2) wq ((HOW1.out.below hb hlw).cell 0) ((HOW1.out.below hb hlw).cell 1) ((HOW1.out.below hb hlw).cell 2) (Nat.lt_of_lt_of_le hlw hb.size)
            (HRW.out.up hb) hr hnk (Hf.out _ (List.mem_of_mem_take (List.getElem_mem hm))).2.2.2 rfl)
        have HCF := Lib.hid (ContainsFunc_ValidMelts1 wr.heap.size w1 (.slice (some ⟨b, off, none⟩) k cap) (xs.take k) (fun y => commonB xs[k].ingots y.ingots) ((HRD.out.up HB1.out).take (by omega)) (by rw [List.length_take]; omega) HCL.out)
        clear HCL HRW HOW1
        cases hE : (xs.take k).any (fun y => commonB xs[k].ingots y.ingots)
        · have e : Hid (allK (meltsAt xs) (k + 1) = true) := (by
            rw [HS.out, Hall.out]; exact meltsAt_yes hlt HO.out HT.out (by simp only [commonB_comm _ xs[k].ingots]; exact hE) : allK (meltsAt xs) (k + 1) = true)
          rw [hE] at HCF
          clear hE
          go_wp2_with fail
          refine HCF.out.mono ?_; rintro e1 w2 ⟨rfl, b2⟩
          have HB2 := Lib.hid (HB1.out.trans (b2.mono HB1.out.size)); clear b2
          go_wp2_with fail
          go_roundw
          case rel => exact ⟨k + 1, by omega, by go_num, e.out, HB2.out⟩
          case measure => simp [intOf]; omega
        · have e : Hid (meltsB xs = false) := (meltsB_no (HF.out (meltsAt_com hlt (by simp only [commonB_comm _ xs[k].ingots]; exact hE))) : meltsB xs = false)
          rw [hE] at HCF
          clear hE
          go_wp2_with fail
          refine HCF.out.mono ?_; rintro e1 w2 ⟨rfl, b2⟩
          have HB2 := Lib.hid (HB1.out.trans (b2.mono HB1.out.size)); clear b2
          go_wp2_with fail
          go_ret
          exact ⟨by rw [e.out]; rfl, HB2.out⟩
      have hpos : 0 < k := by omega
      have hz : decide (0 < k) = true := decide_eq_true (by omega)
      clear hk0
      obtain ⟨l0, p0, _, _, hr0⟩ := HC.out (k - 1) (by omega)
      have d0 := (HB.out.cell (p := ⟨b, off + (k - 1) * 3, none⟩) hbB).trans p0
      clear p0 hr0
      cases hT : ltName xs[k - 1].id xs[k].id
      · have e : Hid (meltsB xs = false) := (meltsB_no (HF.out (meltsAt_lt hlt (ltPrev_no hlt hpos hT))) : meltsB xs = false)
        have t1 := ltName_impl_f hT
        have HO := Lib.hid hO; clear hO hT
        go_wp2_with fail
        refine wp_region_above (by kernel_rfl) (by kernel_rfl) ?_
        repeat (go_big_quiet_step (((go_at_call 22; exact aboveC (impl_ValidMelt_is ⟨xs[k].id, .slice lo xs[k].ingots.length lc, xs[k].ingots, xs[k].mass⟩ _ (by exact hok2.out.up (above_below _ _)) hnk HO.out)))))
        refine wpQuiet_nil ?_
        intro w1 b1
        have HBW := Lib.hid (Below.trans (show Below wr.heap.size wr _ by (repeat' (first | (with_reducible exact Below.refl _ _) | (with_reducible assumption) | (with_reducible refine below_dn ?_ _) | (with_reducible refine Below.drew ?_) | (with_reducible refine Below.alloc ?_ ?_ _) | (with_reducible refine Below.setCell ?_ ?_ _) | go_size))) (b1.mono (by simp <;> omega)))
        have HOW1 := Lib.hid (HOWN.out.below b1 HOWN.out.lt)
        have HB1 := Lib.hid (hBX.out.trans (b1.mono hBX.out.size)); clear b1 HB HOWN hBX hok2
        go_wp2_with fail
        go_ret
        exact ⟨by rw [e.out]; rfl, HB1.out⟩
      · have HO := Lib.hid hO; clear hO
        have t1 := ltName_impl_t hT
        have HT : Hid (ltPrev xs k = true) := (ltPrev_yes hlt hpos hT : ltPrev xs k = true)
        clear hT
        go_wp2_with fail
        refine wp_region_above (by kernel_rfl) (by kernel_rfl) ?_
        repeat (go_big_quiet_step (((go_at_call 22; exact aboveC (impl_ValidMelt_is ⟨xs[k].id, .slice lo xs[k].ingots.length lc, xs[k].ingots, xs[k].mass⟩ _ (by exact hok2.out.up (above_below _ _)) hnk HO.out)))))
        refine wpQuiet_nil ?_
        intro w1 b1
        have HBW := Lib.hid (Below.trans (show Below wr.heap.size wr _ by (repeat' (first | (with_reducible exact Below.refl _ _) | (with_reducible assumption) | (with_reducible refine below_dn ?_ _) | (with_reducible refine Below.drew ?_) | (with_reducible refine Below.alloc ?_ ?_ _) | (with_reducible refine Below.setCell ?_ ?_ _) | go_size))) (b1.mono (by simp <;> omega)))
        have HOW1 := Lib.hid (HOWN.out.below b1 HOWN.out.lt)
        have HB1 := Lib.hid (hBX.out.trans (b1.mono hBX.out.size)); clear b1 HB HOWN hBX hok2
        clear c0 c1 c2 hok HC hws
        have hlw : wr.heap.size < w1.heap.size := HOW1.out.lt
        have HRW := Lib.hid (HR.out.up (show Below wr.heap.size wr w1 from HBW.out))
        have HCL := Lib.hid (fun (wq : World) (hb : Below w1.heap.size w1 wq) (m : Nat) (hm : m < (xs.take k).length) (lo2 : Option Addr) (lc2 : Nat) (hr : Rd wq.heap.size wq (.slice lo2 (xs.take k)[m].ingots.length lc2) 1 (xs.take k)[m].ingots.length ((xs.take k)[m].ingots.flatMap putStr)) =>
          impl_ValidMelts1 xs[k] (xs.take k)[m] wr.heap.size (.slice lo xs[k].ingots.length lc) (.slice lo2 (xs.take k)[m].ingots.length lc2) wq ((HOW1.out.below hb hlw).cell 0) ((HOW1.out.below hb hlw).cell 1) ((HOW1.out.below hb hlw).cell 2) (Nat.lt_of_lt_of_le hlw hb.size)
            (HRW.out.up hb) hr hnk (Hf.out _ (List.mem_of_mem_take (List.getElem_mem hm))).2.2.2 rfl)
        have HCF := Lib.hid (ContainsFunc_ValidMelts1 wr.heap.size w1 (.slice (some ⟨b, off, none⟩) k cap) (xs.take k) (fun y => commonB xs[k].ingots y.ingots) ((HRD.out.up HB1.out).take (by omega)) (by rw [List.length_take]; omega) HCL.out)
        clear HCL HRW HOW1
        cases hE : (xs.take k).any (fun y => commonB xs[k].ingots y.ingots)
        · have e : Hid (allK (meltsAt xs) (k + 1) = true) := (by
            rw [HS.out, Hall.out]; exact meltsAt_yes hlt HO.out HT.out (by simp only [commonB_comm _ xs[k].ingots]; exact hE) : allK (meltsAt xs) (k + 1) = true)
          rw [hE] at HCF
          clear hE
          go_wp2_with fail
          refine HCF.out.mono ?_; rintro e1 w2 ⟨rfl, b2⟩
          have HB2 := Lib.hid (HB1.out.trans (b2.mono HB1.out.size)); clear b2
          go_wp2_with fail
          go_roundw
          case rel => exact ⟨k + 1, by omega, by go_num, e.out, HB2.out⟩
          case measure => simp [intOf]; omega
        · have e : Hid (meltsB xs = false) := (meltsB_no (HF.out (meltsAt_com hlt (by simp only [commonB_comm _ xs[k].ingots]; exact hE))) : meltsB xs = false)
          rw [hE] at HCF
          clear hE
          go_wp2_with fail
          refine HCF.out.mono ?_; rintro e1 w2 ⟨rfl, b2⟩
          have HB2 := Lib.hid (HB1.out.trans (b2.mono HB1.out.size)); clear b2
          go_wp2_with fail
          go_ret
          exact ⟨by rw [e.out]; rfl, HB2.out⟩
    · have e : Hid (allK (meltsAt xs) xs.length = true) := (by
        obtain rfl : k = xs.length := by omega
        exact Hall.out : allK (meltsAt xs) xs.length = true)
      have e2 : Hid (meltsB xs = decide ((xs.length : Int) ≤ 12)) := (by unfold meltsB; rw [e.out, Bool.true_and]; congr 1; exact propext ⟨fun h => by omega, fun h => by omega⟩ : meltsB xs = decide ((xs.length : Int) ≤ 12))
      clear HRD
      go_wp2
      go_ret
      exact ⟨by rw [e2.out]; rfl, hb⟩
end Go.Proofs.YtnbodmbagendnaaGreatDoor
