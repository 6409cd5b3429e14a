/- Contracts and plain facts, joined: ValidMelts, DropM, DelMelt. -/
import Derived.Test.YtklgkbiobggbiaaRows
import Derived.Test.YtklgkbiobggbiaaZFnExactDropMeltH
import Derived.Deep.RegionLaw
import Derived.Shelf.Spec.SlicesInsertGrow
namespace Go.Proofs.Ytklgkbiobggbiaa
open Go.ChangeShapes Go.WideShapes Go.ChangeAt Go.RowKit Go.Deep Go.Joins
set_option linter.unusedVariables false
set_option maxRecDepth 100000
set_option linter.unusedSimpArgs false
theorem spec_l14One_is {b : Bool} (x : Melt) (a o : Nat) (w : World) (hx : x.ok w) (hn : x.ingots.length ≤ 1048576) (h0 : w.cell? ⟨a, o, none⟩ = some (.string x.id)) (h1 : w.cell? ⟨a, o + 1, none⟩ = some x.list) (h2 : w.cell? ⟨a, o + 2, none⟩ = some (.int .i64 x.mass)) (ha : a < w.heap.size) (hb : meltB x = b) :
    Calls Try.prog 81 #[.pointer (some ⟨a, o, none⟩)] w fun e w' => e = .returned (.bool b) ∧ Below w.heap.size w w' := by
  subst hb; exact spec_l14One x a o w hx hn h0 h1 h2 ha
theorem spec_l14One_above {b : Bool} (x : Melt) (a o : Nat) (W x0 : World) (hx : x.ok W) (hn : x.ingots.length ≤ 1048576) (h0 : W.cell? ⟨a, o, none⟩ = some (.string x.id)) (h1 : W.cell? ⟨a, o + 1, none⟩ = some x.list) (h2 : W.cell? ⟨a, o + 2, none⟩ = some (.int .i64 x.mass)) (ha : a < W.heap.size) (hb : meltB x = b) :
    Calls Try.prog 81 #[.pointer (some ⟨a, o, none⟩)] (above W x0) fun e w' => e = .returned (.bool b) ∧ ∃ m, w' = above W m :=
  aboveC (spec_l14One_is x a o _ (hx.up (above_below _ _)) hn ((above_cell ha).trans h0) ((above_cell ha).trans h1) ((above_cell ha).trans h2) (Nat.lt_of_lt_of_le ha (above_below _ _).size) hb)
theorem spec_l14Common_above {b0 : Bool} (W x0 : World) (a1 o1 a2 o2 : Nat) (v1 v2 : Value) (xs ys : List ByteArray) (g1 : W.cell? ⟨a1, o1 + 1, none⟩ = some v1) (g2 : W.cell? ⟨a2, o2 + 1, none⟩ = some v2) (ha1 : a1 < W.heap.size) (ha2 : a2 < W.heap.size)
    (h1 : Rd W.heap.size W v1 1 xs.length (xs.flatMap putStr)) (h2 : Rd W.heap.size W v2 1 ys.length (ys.flatMap putStr)) (hn : xs.length ≤ 1048576) (hn2 : ys.length ≤ 1048576) (hb0 : commonB xs ys = b0) :
    Calls Try.prog 84 #[.pointer (some ⟨a1, o1, none⟩), .pointer (some ⟨a2, o2, none⟩)] (above W x0) fun e w' => e = .returned (.bool b0) ∧ ∃ m, w' = above W m :=
  aboveC (spec_l14Common _ a1 o1 a2 o2 v1 v2 xs ys ((above_cell ha1).trans g1) ((above_cell ha2).trans g2) (Nat.lt_of_lt_of_le ha1 (above_below _ _).size) (Nat.lt_of_lt_of_le ha2 (above_below _ _).size) (h1.up (above_below _ _)) (h2.up (above_below _ _)) hn hn2 hb0)

set_option maxHeartbeats 4000000 in
theorem spec_l14Ok (w : World) (v : Value) (xs : List Melt) (h : RdM w.heap.size w v xs) (hn : xs.length ≤ 1048576) (hf : ∀ x ∈ xs, x.fine) :
    Calls Try.prog 69 #[v] w fun e w' => e = .returned (.bool (meltsB xs)) ∧ Below w.heap.size w w' := by
  have HRD := Lib.hid h
  obtain ⟨ao, cap, rfl, hcap, hmax, hsome⟩ := h
  have Hf := Lib.hid hf; clear hf
  go_enter Try.func69, Try.ntmps69
  go_wp2
  go_loopw [3, 4] (fun i _ wr => ∃ (k : Nat), k ≤ xs.length ∧ i = .int .i64 k ∧ allK (meltsAt xs) k = true ∧ Below w.heap.size w wr) (fun i _ _ => xs.length - (intOf i).toNat)
  case atStart => exact ⟨0, Nat.zero_le _, rfl, rfl, Below.refl _ _⟩
  case round =>
    obtain ⟨k, hk, rfl, hall, hb⟩ := hrel
    have Hall := Lib.hid hall; clear hall
    by_cases hlt : k < xs.length
    · obtain ⟨b, off, rfl, hbB, hc⟩ := hsome (by omega)
      obtain ⟨l, p0, p1, p2, hr⟩ := hc k hlt
      obtain ⟨lo, lc, rfl⟩ := hr.form
      have c0 := (hb.cell (p := ⟨b, off + k * 3, none⟩) hbB).trans p0
      have c1 := (hb.cell (p := ⟨b, off + k * 3 + 1, none⟩) hbB).trans p1
      have c2 := (hb.cell (p := ⟨b, off + k * 3 + 2, none⟩) hbB).trans p2
      have hbr : b < wr.heap.size := Nat.lt_of_lt_of_le hbB hb.size
      have hws := hb.size
      have HR := Lib.hid (hr.up hb)
      have HS := Lib.hid (allK_succ (meltsAt xs) k)
      have HF := Lib.hid (allK_false (meltsAt xs) xs.length k hlt)
      have hfk := Lib.hid (Hf.out xs[k] (List.getElem_mem hlt))
      have hnk : xs[k].ingots.length ≤ 1048576 := hfk.out.2.2.2
      have HC := Lib.hid hc
      have HB := Lib.hid hb
      have hok : Hid (Melt.ok wr ⟨xs[k].id, .slice lo xs[k].ingots.length lc, xs[k].ingots, xs[k].mass⟩) := ⟨hfk.out.1, ⟨HR.out, Nat.le_trans hnk (by unfold maxLen; omega), hfk.out.2.1⟩, hfk.out.2.2.1⟩
      clear hc hsome hb p0 p1 p2 hr
      cases hO : meltB xs[k]
      · have e : Hid (meltsB xs = false) := (meltsB_no (HF.out (meltsAt_no hlt hO)) : meltsB xs = false)
        have HO := Lib.hid hO; clear hO
        go_wp2_with fail
        refine wp_region_above (by kernel_rfl) (by kernel_rfl) ?_
        repeat (go_big_quiet_step (((go_at_call 81; exact spec_l14One_above ⟨xs[k].id, .slice lo xs[k].ingots.length lc, xs[k].ingots, xs[k].mass⟩ _ _ _ _ hok.out hnk c0 c1 c2 hbr HO.out))))
        refine wpQuiet_nil ?_
        intro w1 b1
        have HB1 := Lib.hid (HB.out.trans (b1.mono HB.out.size)); clear b1 HB
        go_wp2_with fail
        go_ret
        exact ⟨by rw [e.out]; rfl, HB1.out⟩
      by_cases hk0 : k = 0
      · have HO := Lib.hid hO; clear hO
        have hz : decide (0 < k) = false := decide_eq_false (by omega)
        have HT : Hid (ltPrev xs k = true) := (ltPrev_zero hk0 : ltPrev xs k = true)
        have Hk0 := Lib.hid hk0; clear hk0
        go_wp2_with fail
        refine wp_region_above (by kernel_rfl) (by kernel_rfl) ?_
        repeat (go_big_quiet_step (((go_at_call 81; exact spec_l14One_above ⟨xs[k].id, .slice lo xs[k].ingots.length lc, xs[k].ingots, xs[k].mass⟩ _ _ _ _ hok.out hnk c0 c1 c2 hbr HO.out))))
        refine wpQuiet_nil ?_
        intro w1 b1
        have HB1 := Lib.hid (HB.out.trans (b1.mono HB.out.size)); clear b1 HB
        clear c0 c1 c2 HR hok hnk hws hbr
        have Hcom : Hid (∀ (wr : World), Below w.heap.size w wr → ∀ m (hm : m < xs.length), ∃ lo lc, wr.cell? ⟨b, off + m * 3 + 1, none⟩ = some (.slice lo xs[m].ingots.length lc) ∧ b < wr.heap.size ∧ Rd wr.heap.size wr (.slice lo xs[m].ingots.length lc) 1 xs[m].ingots.length (xs[m].ingots.flatMap putStr)) := (by
          intro wr hb m hm
          obtain ⟨l, p0, p1, p2, hr⟩ := HC.out m hm
          obtain ⟨lo, lc, rfl⟩ := hr.form
          exact ⟨lo, lc, (hb.cell (p := ⟨b, off + m * 3 + 1, none⟩) hbB).trans p1, Nat.lt_of_lt_of_le hbB hb.size, hr.up hb⟩)
        clear HC
        go_wp2_with fail
        obtain ⟨wo, rfl⟩ : ∃ wo : World, wo = w1 := ⟨_, rfl⟩
        go_loopw [4] (fun j wr => ∃ (m : Nat), m ≤ k ∧ j = .int .i64 m ∧ (xs.take m).any (fun y => commonB y.ingots xs[k].ingots) = false ∧ Below w.heap.size w wr) (fun j _ => k - (intOf j).toNat)
        case atStart => exact ⟨0, Nat.zero_le _, rfl, rfl, HB1.out⟩
        case round =>
          obtain ⟨m, hm, rfl, hall2, hb⟩ := hrel
          have Hall2 := Lib.hid hall2; clear hall2 HB1
          by_cases hlt2 : m < k
          · have hmx : m < xs.length := by omega
            obtain ⟨l1, q1, c1, hbr, r1⟩ := Hcom.out wr hb m hmx
            obtain ⟨l2, q2, c2, _, r2⟩ := Hcom.out wr hb k hlt
            have R1 := Lib.hid r1; clear r1
            have R2 := Lib.hid r2; clear r2
            have HB := Lib.hid hb; clear hb Hcom
            have hfm : xs[m].ingots.length ≤ 1048576 := (Hf.out xs[m] (List.getElem_mem hmx)).2.2.2
            have hfk2 : xs[k].ingots.length ≤ 1048576 := hfk.out.2.2.2
            cases hE : commonB xs[m].ingots xs[k].ingots
            · have e : Hid ((xs.take (m + 1)).any (fun y => commonB y.ingots xs[k].ingots) = false) := (by rw [any_take xs m hmx, Hall2.out, hE]; rfl : (xs.take (m + 1)).any (fun y => commonB y.ingots xs[k].ingots) = false)
              have HE := Lib.hid hE; clear hE
              go_wp2_with fail
              refine wp_region_above (by kernel_rfl) (by kernel_rfl) ?_
              repeat (go_big_quiet_step (((go_at_call 84; exact spec_l14Common_above _ _ _ _ _ _ _ _ xs[m].ingots xs[k].ingots c1 c2 hbr hbr R1.out R2.out hfm hfk2 HE.out))))
              refine wpQuiet_nil ?_
              intro w2 b2
              have HB1 := Lib.hid (HB.out.trans (b2.mono HB.out.size)); clear b2 HB
              go_wp2_with fail
              go_roundw
              case rel => exact ⟨m + 1, by omega, by go_num, e.out, HB1.out⟩
              case measure => simp [intOf]; omega
            · have e : Hid (meltsB xs = false) := (meltsB_no (HF.out (meltsAt_com hlt (any_upto hmx (by omega) hE))) : meltsB xs = false)
              have HE := Lib.hid hE; clear hE
              go_wp2_with fail
              refine wp_region_above (by kernel_rfl) (by kernel_rfl) ?_
              repeat (go_big_quiet_step (((go_at_call 84; exact spec_l14Common_above _ _ _ _ _ _ _ _ xs[m].ingots xs[k].ingots c1 c2 hbr hbr R1.out R2.out hfm hfk2 HE.out))))
              refine wpQuiet_nil ?_
              intro w2 b2
              have HB1 := Lib.hid (HB.out.trans (b2.mono HB.out.size)); clear b2 HB
              go_wp2_with fail
              go_ret
              exact ⟨by rw [e.out]; rfl, HB1.out⟩
          · have e : Hid (allK (meltsAt xs) (k + 1) = true) := (by
              obtain rfl : m = k := by omega
              rw [HS.out, Hall.out]; exact meltsAt_yes hlt HO.out HT.out Hall2.out : allK (meltsAt xs) (k + 1) = true)
            have HB := Lib.hid hb; clear hb Hcom
            go_wp2
            go_roundw
            case rel => exact ⟨k + 1, by omega, by go_num, e.out, HB.out⟩
            case measure => simp [intOf]; omega
      have hpos : 0 < k := by omega
      have hz : decide (0 < k) = true := decide_eq_true (by omega)
      clear hk0
      obtain ⟨l0, p0, _, _, hr0⟩ := HC.out (k - 1) (by omega)
      have d0 := (HB.out.cell (p := ⟨b, off + (k - 1) * 3, none⟩) hbB).trans p0
      clear p0 hr0
      cases hT : ltName xs[k - 1].id xs[k].id
      · have e : Hid (meltsB xs = false) := (meltsB_no (HF.out (meltsAt_lt hlt (ltPrev_no hlt hpos hT))) : meltsB xs = false)
        have t1 := ltName_spec_f hT
        have HO := Lib.hid hO; clear hO hT
        go_wp2_with fail
        refine wp_region_above (by kernel_rfl) (by kernel_rfl) ?_
        repeat (go_big_quiet_step (((go_at_call 81; exact spec_l14One_above ⟨xs[k].id, .slice lo xs[k].ingots.length lc, xs[k].ingots, xs[k].mass⟩ _ _ _ _ hok.out hnk c0 c1 c2 hbr HO.out))))
        refine wpQuiet_nil ?_
        intro w1 b1
        have HB1 := Lib.hid (HB.out.trans (b1.mono HB.out.size)); clear b1 HB
        go_wp2_with fail
        go_ret
        exact ⟨by rw [e.out]; rfl, HB1.out⟩
      · have HO := Lib.hid hO; clear hO
        have t1 := ltName_spec_t hT
        have HT : Hid (ltPrev xs k = true) := (ltPrev_yes hlt hpos hT : ltPrev xs k = true)
        clear hT
        go_wp2_with fail
        refine wp_region_above (by kernel_rfl) (by kernel_rfl) ?_
        repeat (go_big_quiet_step (((go_at_call 81; exact spec_l14One_above ⟨xs[k].id, .slice lo xs[k].ingots.length lc, xs[k].ingots, xs[k].mass⟩ _ _ _ _ hok.out hnk c0 c1 c2 hbr HO.out))))
        refine wpQuiet_nil ?_
        intro w1 b1
        have HB1 := Lib.hid (HB.out.trans (b1.mono HB.out.size)); clear b1 HB
        clear c0 c1 c2 HR hok hnk hws hbr
        have Hcom : Hid (∀ (wr : World), Below w.heap.size w wr → ∀ m (hm : m < xs.length), ∃ lo lc, wr.cell? ⟨b, off + m * 3 + 1, none⟩ = some (.slice lo xs[m].ingots.length lc) ∧ b < wr.heap.size ∧ Rd wr.heap.size wr (.slice lo xs[m].ingots.length lc) 1 xs[m].ingots.length (xs[m].ingots.flatMap putStr)) := (by
          intro wr hb m hm
          obtain ⟨l, p0, p1, p2, hr⟩ := HC.out m hm
          obtain ⟨lo, lc, rfl⟩ := hr.form
          exact ⟨lo, lc, (hb.cell (p := ⟨b, off + m * 3 + 1, none⟩) hbB).trans p1, Nat.lt_of_lt_of_le hbB hb.size, hr.up hb⟩)
        clear HC
        go_wp2_with fail
        obtain ⟨wo, rfl⟩ : ∃ wo : World, wo = w1 := ⟨_, rfl⟩
        go_loopw [4] (fun j wr => ∃ (m : Nat), m ≤ k ∧ j = .int .i64 m ∧ (xs.take m).any (fun y => commonB y.ingots xs[k].ingots) = false ∧ Below w.heap.size w wr) (fun j _ => k - (intOf j).toNat)
        case atStart => exact ⟨0, Nat.zero_le _, rfl, rfl, HB1.out⟩
        case round =>
          obtain ⟨m, hm, rfl, hall2, hb⟩ := hrel
          have Hall2 := Lib.hid hall2; clear hall2 HB1
          by_cases hlt2 : m < k
          · have hmx : m < xs.length := by omega
            obtain ⟨l1, q1, c1, hbr, r1⟩ := Hcom.out wr hb m hmx
            obtain ⟨l2, q2, c2, _, r2⟩ := Hcom.out wr hb k hlt
            have R1 := Lib.hid r1; clear r1
            have R2 := Lib.hid r2; clear r2
            have HB := Lib.hid hb; clear hb Hcom
            have hfm : xs[m].ingots.length ≤ 1048576 := (Hf.out xs[m] (List.getElem_mem hmx)).2.2.2
            have hfk2 : xs[k].ingots.length ≤ 1048576 := hfk.out.2.2.2
            cases hE : commonB xs[m].ingots xs[k].ingots
            · have e : Hid ((xs.take (m + 1)).any (fun y => commonB y.ingots xs[k].ingots) = false) := (by rw [any_take xs m hmx, Hall2.out, hE]; rfl : (xs.take (m + 1)).any (fun y => commonB y.ingots xs[k].ingots) = false)
              have HE := Lib.hid hE; clear hE
              go_wp2_with fail
              refine wp_region_above (by kernel_rfl) (by kernel_rfl) ?_
              repeat (go_big_quiet_step (((go_at_call 84; exact spec_l14Common_above _ _ _ _ _ _ _ _ xs[m].ingots xs[k].ingots c1 c2 hbr hbr R1.out R2.out hfm hfk2 HE.out))))
              refine wpQuiet_nil ?_
              intro w2 b2
              have HB1 := Lib.hid (HB.out.trans (b2.mono HB.out.size)); clear b2 HB
              go_wp2_with fail
              go_roundw
              case rel => exact ⟨m + 1, by omega, by go_num, e.out, HB1.out⟩
              case measure => simp [intOf]; omega
            · have e : Hid (meltsB xs = false) := (meltsB_no (HF.out (meltsAt_com hlt (any_upto hmx (by omega) hE))) : meltsB xs = false)
              have HE := Lib.hid hE; clear hE
              go_wp2_with fail
              refine wp_region_above (by kernel_rfl) (by kernel_rfl) ?_
              repeat (go_big_quiet_step (((go_at_call 84; exact spec_l14Common_above _ _ _ _ _ _ _ _ xs[m].ingots xs[k].ingots c1 c2 hbr hbr R1.out R2.out hfm hfk2 HE.out))))
              refine wpQuiet_nil ?_
              intro w2 b2
              have HB1 := Lib.hid (HB.out.trans (b2.mono HB.out.size)); clear b2 HB
              go_wp2_with fail
              go_ret
              exact ⟨by rw [e.out]; rfl, HB1.out⟩
          · have e : Hid (allK (meltsAt xs) (k + 1) = true) := (by
              obtain rfl : m = k := by omega
              rw [HS.out, Hall.out]; exact meltsAt_yes hlt HO.out HT.out Hall2.out : allK (meltsAt xs) (k + 1) = true)
            have HB := Lib.hid hb; clear hb Hcom
            go_wp2
            go_roundw
            case rel => exact ⟨k + 1, by omega, by go_num, e.out, HB.out⟩
            case measure => simp [intOf]; omega
    · have e : Hid (allK (meltsAt xs) xs.length = true) := (by
        obtain rfl : k = xs.length := by omega
        exact Hall.out : allK (meltsAt xs) xs.length = true)
      have e2 : Hid (meltsB xs = decide ((xs.length : Int) ≤ 12)) := (by unfold meltsB; rw [e.out, Bool.true_and]; congr 1; exact propext ⟨fun h => by omega, fun h => by omega⟩ : meltsB xs = decide ((xs.length : Int) ≤ 12))
      clear HRD
      go_wp2
      go_ret
      exact ⟨by rw [e2.out]; rfl, hb⟩

theorem impl_ValidMelts1 {b0 : Bool} (x y : Melt) (g : Nat) (l1 l2 : Value) (w : World) (g0 : w.cell? ⟨g, 0, none⟩ = some (.string x.id)) (g1 : w.cell? ⟨g, 1, none⟩ = some l1) (g2 : w.cell? ⟨g, 2, none⟩ = some (.int .i64 x.mass)) (hg : g < w.heap.size)
    (h1 : Rd w.heap.size w l1 1 x.ingots.length (x.ingots.flatMap putStr)) (h2 : Rd w.heap.size w l2 1 y.ingots.length (y.ingots.flatMap putStr)) (hn : x.ingots.length ≤ 1048576) (hn2 : y.ingots.length ≤ 1048576) (hb0 : commonB x.ingots y.ingots = b0) :
    Calls Try.prog 121 #[.agg #[.string y.id, l2, .int .i64 y.mass], .pointer (some ⟨g, 0, none⟩)] w fun e w' => e = .returned (.bool b0) ∧ Below w.heap.size w w' := by
  subst hb0
  obtain ⟨lo, lc, rfl⟩ := h1.form
  obtain ⟨lo2, lc2, rfl⟩ := h2.form
  have H1 := Lib.hid h1; clear h1
  have H2 := Lib.hid h2; clear h2
  go_enter Try.func121, Try.ntmps121
  go_wp2_with fail
  refine (impl_shares x y _ _ _ (by exact H1.out.up (by (repeat' (first | (with_reducible exact Below.refl _ _) | (with_reducible assumption) | (with_reducible refine below_dn ?_ _) | (with_reducible refine Below.drew ?_) | (with_reducible refine Below.alloc ?_ ?_ _) | (with_reducible refine Below.setCell ?_ ?_ _) | go_size)))) (by exact H2.out.up (by (repeat' (first | (with_reducible exact Below.refl _ _) | (with_reducible assumption) | (with_reducible refine below_dn ?_ _) | (with_reducible refine Below.drew ?_) | (with_reducible refine Below.alloc ?_ ?_ _) | (with_reducible refine Below.setCell ?_ ?_ _) | go_size)))) hn hn2 rfl).mono ?_; rintro e w1 ⟨rfl, b1⟩
  go_wp2_with fail
  go_ret
  exact ⟨rfl, Below.trans (by (repeat' (first | (with_reducible exact Below.refl _ _) | (with_reducible assumption) | (with_reducible refine below_dn ?_ _) | (with_reducible refine Below.drew ?_) | (with_reducible refine Below.alloc ?_ ?_ _) | (with_reducible refine Below.setCell ?_ ?_ _) | go_size))) (b1.mono (by simp <;> omega))⟩

set_option maxHeartbeats 1000000 in
theorem IndexFunc_ValidMelts1 (g : Nat) (w : World) (v : Value) (xs : List Melt) (p : Melt → Bool) (h : RdM w.heap.size w v xs) (hn : xs.length ≤ 1048576)
    (H : ∀ (wr : World) (hb : Below w.heap.size w wr) (k : Nat) (hk : k < xs.length) (lo : Option Addr) (lc : Nat) (hr : Rd wr.heap.size wr (.slice lo xs[k].ingots.length lc) 1 xs[k].ingots.length (xs[k].ingots.flatMap putStr)), Calls Try.prog 121 #[.agg #[.string xs[k].id, .slice lo xs[k].ingots.length lc, .int .i64 xs[k].mass], .pointer (some ⟨g, 0, none⟩)] wr fun e w' => e = .returned (.bool (p xs[k])) ∧ Below wr.heap.size wr w') :
    Calls Try.prog 136 #[v, .func (.func 121) #[] #[.pointer (some ⟨g, 0, none⟩)]] w fun e w' => (∃ r : Int, e = .returned (.int .i64 r) ∧ decide (0 ≤ r) = xs.any p) ∧ Below w.heap.size w w' := by
  obtain ⟨ao, cap, rfl, hcap, hmax, hsome⟩ := h
  go_enter Try.func136, Try.ntmps136
  have HH := Lib.hid H; clear H
  go_wp2
  go_loopw [8] (fun i wr => ∃ (k : Nat), k ≤ xs.length ∧ i = .int .i64 k ∧ (xs.take k).any p = false ∧ Below w.heap.size w wr) (fun i _ => xs.length - (intOf i).toNat)
  case atStart => exact ⟨0, Nat.zero_le _, rfl, rfl, Below.refl _ _⟩
  case round =>
    obtain ⟨k, hk, rfl, hall, hb⟩ := hrel
    have Hall := Lib.hid hall; clear hall
    by_cases hlt : k < xs.length
    · obtain ⟨b, off, rfl, hbB, hc⟩ := hsome (by omega)
      obtain ⟨l, p0, p1, p2, hr⟩ := hc k hlt
      obtain ⟨lo, lc, rfl⟩ := hr.form
      have c0 := (hb.cell (p := ⟨b, off + k * 3, none⟩) hbB).trans p0
      have c1 := (hb.cell (p := ⟨b, off + k * 3 + 1, none⟩) hbB).trans p1
      have c2 := (hb.cell (p := ⟨b, off + k * 3 + 2, none⟩) hbB).trans p2
      have hbr : b < wr.heap.size := Nat.lt_of_lt_of_le hbB hb.size
      have HC := Lib.hid (HH.out wr hb k hlt lo lc (hr.up hb)); clear HH
      have HB := Lib.hid hb
      clear hc hsome hb p0 p1 p2 hr
      cases hO : p xs[k]
      all_goals rw [hO] at HC
      · have e : Hid ((xs.take (k + 1)).any p = false) := (by rw [any_take xs k hlt, Hall.out, hO]; rfl : (xs.take (k + 1)).any p = false)
        clear hO
        go_wp2_with fail
        go_at_call 121
        refine HC.out.mono ?_; rintro e1 w1 ⟨rfl, b1⟩
        have HB1 := Lib.hid (HB.out.trans (b1.mono HB.out.size)); clear b1 HB
        go_wp2_with fail
        go_roundw
        case rel => exact ⟨k + 1, by omega, by go_num, e.out, HB1.out⟩
        case measure => simp [intOf]; omega
      · have e : Hid (xs.any p = true) := (any_at xs k hlt hO : xs.any p = true)
        clear hO
        go_wp2_with fail
        go_at_call 121
        refine HC.out.mono ?_; rintro e1 w1 ⟨rfl, b1⟩
        have HB1 := Lib.hid (HB.out.trans (b1.mono HB.out.size)); clear b1 HB
        go_wp2_with fail
        go_ret
        exact ⟨⟨_, rfl, by rw [e.out]; simp⟩, HB1.out⟩
    · have e : Hid (xs.any p = false) := (by
        have := Hall.out
        rwa [List.take_of_length_le (by omega)] at this : xs.any p = false)
      clear HH
      go_wp2
      go_ret
      exact ⟨⟨_, rfl, by rw [e.out]; rfl⟩, hb⟩

theorem ContainsFunc_ValidMelts1 (g : Nat) (w : World) (v : Value) (xs : List Melt) (p : Melt → Bool) (h : RdM w.heap.size w v xs) (hn : xs.length ≤ 1048576)
    (H : ∀ (wr : World) (hb : Below w.heap.size w wr) (k : Nat) (hk : k < xs.length) (lo : Option Addr) (lc : Nat) (hr : Rd wr.heap.size wr (.slice lo xs[k].ingots.length lc) 1 xs[k].ingots.length (xs[k].ingots.flatMap putStr)), Calls Try.prog 121 #[.agg #[.string xs[k].id, .slice lo xs[k].ingots.length lc, .int .i64 xs[k].mass], .pointer (some ⟨g, 0, none⟩)] wr fun e w' => e = .returned (.bool (p xs[k])) ∧ Below wr.heap.size wr w') :
    Calls Try.prog 91 #[v, .func (.func 121) #[] #[.pointer (some ⟨g, 0, none⟩)]] w fun e w' => e = .returned (.bool (xs.any p)) ∧ Below w.heap.size w w' := by
  have H2 := Lib.hid (IndexFunc_ValidMelts1 g w v xs p h hn H)
  clear h H
  go_enter Try.func91, Try.ntmps91
  go_wp2_with fail
  refine H2.out.mono ?_; rintro e w1 ⟨⟨r, rfl, hr⟩, b1⟩
  have Hr := Lib.hid hr; clear hr
  go_wp2_with fail
  go_ret
  exact ⟨by rw [← Hr.out]; rfl, b1⟩

set_option maxHeartbeats 4000000 in
theorem impl_ValidMelts (w : World) (v : Value) (xs : List Melt) (h : RdM w.heap.size w v xs) (hn : xs.length ≤ 1048576) (hf : ∀ x ∈ xs, x.fine) :
    Calls Try.prog 71 #[v] w fun e w' => e = .returned (.bool (meltsB xs)) ∧ Below w.heap.size w w' := by
  have HRD := Lib.hid h
  obtain ⟨ao, cap, rfl, hcap, hmax, hsome⟩ := h
  have Hf := Lib.hid hf; clear hf
  go_enter Try.func71, Try.ntmps71
  go_wp2
  go_loopw [7] (fun i wr => ∃ (k : Nat), k ≤ xs.length ∧ i = .int .i64 k ∧ allK (meltsAt xs) k = true ∧ Below w.heap.size w wr) (fun i _ => xs.length - (intOf i).toNat)
  case atStart => exact ⟨0, Nat.zero_le _, rfl, rfl, Below.refl _ _⟩
  case round =>
    obtain ⟨k, hk, rfl, hall, hb⟩ := hrel
    have Hall := Lib.hid hall; clear hall
    by_cases hlt : k < xs.length
    · obtain ⟨b, off, rfl, hbB, hc⟩ := hsome (by omega)
      obtain ⟨l, p0, p1, p2, hr⟩ := hc k hlt
      obtain ⟨lo, lc, rfl⟩ := hr.form
      have c0 := (hb.cell (p := ⟨b, off + k * 3, none⟩) hbB).trans p0
      have c1 := (hb.cell (p := ⟨b, off + k * 3 + 1, none⟩) hbB).trans p1
      have c2 := (hb.cell (p := ⟨b, off + k * 3 + 2, none⟩) hbB).trans p2
      have hbr : b < wr.heap.size := Nat.lt_of_lt_of_le hbB hb.size
      have hws := hb.size
      have HR := Lib.hid (hr.up hb)
      have HS := Lib.hid (allK_succ (meltsAt xs) k)
      have HF := Lib.hid (allK_false (meltsAt xs) xs.length k hlt)
      have hfk := Lib.hid (Hf.out xs[k] (List.getElem_mem hlt))
      have hnk : xs[k].ingots.length ≤ 1048576 := hfk.out.2.2.2
      have HC := Lib.hid hc
      have HB := Lib.hid hb
      have hok : Hid (Melt.ok wr ⟨xs[k].id, .slice lo xs[k].ingots.length lc, xs[k].ingots, xs[k].mass⟩) := ⟨hfk.out.1, ⟨HR.out, Nat.le_trans hnk (by unfold maxLen; omega), hfk.out.2.1⟩, hfk.out.2.2.1⟩
      clear hc hsome hb p0 p1 p2 hr
      have hBX : Hid (Below w.heap.size w (wr.alloc (Obj.cells #[Value.string xs[k].id, Value.slice lo xs[k].ingots.length lc, Value.int IntKind.i64 xs[k].mass] 67))) := (HB.out.alloc HB.out.size _ : Below w.heap.size w (wr.alloc (Obj.cells #[Value.string xs[k].id, Value.slice lo xs[k].ingots.length lc, Value.int IntKind.i64 xs[k].mass] 67)))
      have hsz : (wr.alloc (Obj.cells #[Value.string xs[k].id, Value.slice lo xs[k].ingots.length lc, Value.int IntKind.i64 xs[k].mass] 67)).heap.size = wr.heap.size + 1 := by simp
      clear hsz
      have hok2 : Hid (Melt.ok (wr.alloc (Obj.cells #[Value.string xs[k].id, Value.slice lo xs[k].ingots.length lc, Value.int IntKind.i64 xs[k].mass] 67)) ⟨xs[k].id, .slice lo xs[k].ingots.length lc, xs[k].ingots, xs[k].mass⟩) := (hok.out.up (by (repeat' (first | (with_reducible exact Below.refl _ _) | (with_reducible assumption) | (with_reducible refine below_dn ?_ _) | (with_reducible refine Below.drew ?_) | (with_reducible refine Below.alloc ?_ ?_ _) | (with_reducible refine Below.setCell ?_ ?_ _) | go_size))) : Melt.ok (wr.alloc (Obj.cells #[Value.string xs[k].id, Value.slice lo xs[k].ingots.length lc, Value.int IntKind.i64 xs[k].mass] 67)) ⟨xs[k].id, .slice lo xs[k].ingots.length lc, xs[k].ingots, xs[k].mass⟩)
      have HOWN := Lib.hid (Own.new wr 67 [Value.string xs[k].id, Value.slice lo xs[k].ingots.length lc, Value.int IntKind.i64 xs[k].mass])
      cases hO : meltB xs[k]
      · have e : Hid (meltsB xs = false) := (meltsB_no (HF.out (meltsAt_no hlt hO)) : meltsB xs = false)
        have HO := Lib.hid hO; clear hO
        go_wp2_with fail
        refine wp_region_above (by kernel_rfl) (by kernel_rfl) ?_
        repeat (go_big_quiet_step (((go_at_call 88; exact aboveC (impl_ValidMelt_is ⟨xs[k].id, .slice lo xs[k].ingots.length lc, xs[k].ingots, xs[k].mass⟩ _ (by exact hok2.out.up (above_below _ _)) hnk HO.out)))))
        refine wpQuiet_nil ?_
        intro w1 b1
        have HOW1 := Lib.hid (HOWN.out.below b1 HOWN.out.lt)
        have HB1 := Lib.hid (hBX.out.trans (b1.mono hBX.out.size)); clear b1 HB HOWN hBX hok2
        go_wp2_with fail
        go_ret
        exact ⟨by rw [e.out]; rfl, HB1.out⟩
      by_cases hk0 : k = 0
      · have HO := Lib.hid hO; clear hO
        have hz : decide (0 < k) = false := decide_eq_false (by omega)
        have HT : Hid (ltPrev xs k = true) := (ltPrev_zero hk0 : ltPrev xs k = true)
        have Hk0 := Lib.hid hk0; clear hk0
        go_wp2_with fail
        refine wp_region_above (by kernel_rfl) (by kernel_rfl) ?_
        repeat (go_big_quiet_step (((go_at_call 88; exact aboveC (impl_ValidMelt_is ⟨xs[k].id, .slice lo xs[k].ingots.length lc, xs[k].ingots, xs[k].mass⟩ _ (by exact hok2.out.up (above_below _ _)) hnk HO.out)))))
        refine wpQuiet_nil ?_
        intro w1 b1
        have HBW := Lib.hid (Below.trans (show Below wr.heap.size wr _ by (repeat' (first | (with_reducible exact Below.refl _ _) | (with_reducible assumption) | (with_reducible refine below_dn ?_ _) | (with_reducible refine Below.drew ?_) | (with_reducible refine Below.alloc ?_ ?_ _) | (with_reducible refine Below.setCell ?_ ?_ _) | go_size))) (b1.mono (by simp <;> omega)))
        have HOW1 := Lib.hid (HOWN.out.below b1 HOWN.out.lt)
        have HB1 := Lib.hid (hBX.out.trans (b1.mono hBX.out.size)); clear b1 HB HOWN hBX hok2
        clear c0 c1 c2 hok HC hws
        have hlw : wr.heap.size < w1.heap.size := HOW1.out.lt
        have HRW := Lib.hid (HR.out.up (show Below wr.heap.size wr w1 from HBW.out))
        have HCL := Lib.hid (fun (wq : World) (hb : Below w1.heap.size w1 wq) (m : Nat) (hm : m < (xs.take k).length) (lo2 : Option Addr) (lc2 : Nat) (hr : Rd wq.heap.size wq (.slice lo2 (xs.take k)[m].ingots.length lc2) 1 (xs.take k)[m].ingots.length ((xs.take k)[m].ingots.flatMap putStr)) =>
          impl_ValidMelts1 xs[k] (xs.take k)[m] wr.heap.size (.slice lo xs[k].ingots.length lc) (.slice lo2 (xs.take k)[m].ingots.length lc2) wq ((HOW1.out.below hb hlw).cell 0) ((HOW1.out.below hb hlw).cell 1) ((HOW1.out.below hb hlw).cell 2) (Nat.lt_of_lt_of_le hlw hb.size)
            (HRW.out.up hb) hr hnk (Hf.out _ (List.mem_of_mem_take (List.getElem_mem hm))).2.2.2 rfl)
        have HCF := Lib.hid (ContainsFunc_ValidMelts1 wr.heap.size w1 (.slice (some ⟨b, off, none⟩) k cap) (xs.take k) (fun y => commonB xs[k].ingots y.ingots) ((HRD.out.up HB1.out).take (by omega)) (by rw [List.length_take]; omega) HCL.out)
        clear HCL HRW HOW1
        cases hE : (xs.take k).any (fun y => commonB xs[k].ingots y.ingots)
        · have e : Hid (allK (meltsAt xs) (k + 1) = true) := (by
            rw [HS.out, Hall.out]; exact meltsAt_yes hlt HO.out HT.out (by simp only [commonB_comm _ xs[k].ingots]; exact hE) : allK (meltsAt xs) (k + 1) = true)
          rw [hE] at HCF
          clear hE
          go_wp2_with fail
          refine HCF.out.mono ?_; rintro e1 w2 ⟨rfl, b2⟩
          have HB2 := Lib.hid (HB1.out.trans (b2.mono HB1.out.size)); clear b2
          go_wp2_with fail
          go_roundw
          case rel => exact ⟨k + 1, by omega, by go_num, e.out, HB2.out⟩
          case measure => simp [intOf]; omega
        · have e : Hid (meltsB xs = false) := (meltsB_no (HF.out (meltsAt_com hlt (by simp only [commonB_comm _ xs[k].ingots]; exact hE))) : meltsB xs = false)
          rw [hE] at HCF
          clear hE
          go_wp2_with fail
          refine HCF.out.mono ?_; rintro e1 w2 ⟨rfl, b2⟩
          have HB2 := Lib.hid (HB1.out.trans (b2.mono HB1.out.size)); clear b2
          go_wp2_with fail
          go_ret
          exact ⟨by rw [e.out]; rfl, HB2.out⟩
      have hpos : 0 < k := by omega
      have hz : decide (0 < k) = true := decide_eq_true (by omega)
      clear hk0
      obtain ⟨l0, p0, _, _, hr0⟩ := HC.out (k - 1) (by omega)
      have d0 := (HB.out.cell (p := ⟨b, off + (k - 1) * 3, none⟩) hbB).trans p0
      clear p0 hr0
      cases hT : ltName xs[k - 1].id xs[k].id
      · have e : Hid (meltsB xs = false) := (meltsB_no (HF.out (meltsAt_lt hlt (ltPrev_no hlt hpos hT))) : meltsB xs = false)
        have t1 := ltName_impl_f hT
        have HO := Lib.hid hO; clear hO hT
        go_wp2_with fail
        refine wp_region_above (by kernel_rfl) (by kernel_rfl) ?_
        repeat (go_big_quiet_step (((go_at_call 88; exact aboveC (impl_ValidMelt_is ⟨xs[k].id, .slice lo xs[k].ingots.length lc, xs[k].ingots, xs[k].mass⟩ _ (by exact hok2.out.up (above_below _ _)) hnk HO.out)))))
        refine wpQuiet_nil ?_
        intro w1 b1
        have HBW := Lib.hid (Below.trans (show Below wr.heap.size wr _ by (repeat' (first | (with_reducible exact Below.refl _ _) | (with_reducible assumption) | (with_reducible refine below_dn ?_ _) | (with_reducible refine Below.drew ?_) | (with_reducible refine Below.alloc ?_ ?_ _) | (with_reducible refine Below.setCell ?_ ?_ _) | go_size))) (b1.mono (by simp <;> omega)))
        have HOW1 := Lib.hid (HOWN.out.below b1 HOWN.out.lt)
        have HB1 := Lib.hid (hBX.out.trans (b1.mono hBX.out.size)); clear b1 HB HOWN hBX hok2
        go_wp2_with fail
        go_ret
        exact ⟨by rw [e.out]; rfl, HB1.out⟩
      · have HO := Lib.hid hO; clear hO
        have t1 := ltName_impl_t hT
        have HT : Hid (ltPrev xs k = true) := (ltPrev_yes hlt hpos hT : ltPrev xs k = true)
        clear hT
        go_wp2_with fail
        refine wp_region_above (by kernel_rfl) (by kernel_rfl) ?_
        repeat (go_big_quiet_step (((go_at_call 88; exact aboveC (impl_ValidMelt_is ⟨xs[k].id, .slice lo xs[k].ingots.length lc, xs[k].ingots, xs[k].mass⟩ _ (by exact hok2.out.up (above_below _ _)) hnk HO.out)))))
        refine wpQuiet_nil ?_
        intro w1 b1
        have HBW := Lib.hid (Below.trans (show Below wr.heap.size wr _ by (repeat' (first | (with_reducible exact Below.refl _ _) | (with_reducible assumption) | (with_reducible refine below_dn ?_ _) | (with_reducible refine Below.drew ?_) | (with_reducible refine Below.alloc ?_ ?_ _) | (with_reducible refine Below.setCell ?_ ?_ _) | go_size))) (b1.mono (by simp <;> omega)))
        have HOW1 := Lib.hid (HOWN.out.below b1 HOWN.out.lt)
        have HB1 := Lib.hid (hBX.out.trans (b1.mono hBX.out.size)); clear b1 HB HOWN hBX hok2
        clear c0 c1 c2 hok HC hws
        have hlw : wr.heap.size < w1.heap.size := HOW1.out.lt
        have HRW := Lib.hid (HR.out.up (show Below wr.heap.size wr w1 from HBW.out))
        have HCL := Lib.hid (fun (wq : World) (hb : Below w1.heap.size w1 wq) (m : Nat) (hm : m < (xs.take k).length) (lo2 : Option Addr) (lc2 : Nat) (hr : Rd wq.heap.size wq (.slice lo2 (xs.take k)[m].ingots.length lc2) 1 (xs.take k)[m].ingots.length ((xs.take k)[m].ingots.flatMap putStr)) =>
          impl_ValidMelts1 xs[k] (xs.take k)[m] wr.heap.size (.slice lo xs[k].ingots.length lc) (.slice lo2 (xs.take k)[m].ingots.length lc2) wq ((HOW1.out.below hb hlw).cell 0) ((HOW1.out.below hb hlw).cell 1) ((HOW1.out.below hb hlw).cell 2) (Nat.lt_of_lt_of_le hlw hb.size)
            (HRW.out.up hb) hr hnk (Hf.out _ (List.mem_of_mem_take (List.getElem_mem hm))).2.2.2 rfl)
        have HCF := Lib.hid (ContainsFunc_ValidMelts1 wr.heap.size w1 (.slice (some ⟨b, off, none⟩) k cap) (xs.take k) (fun y => commonB xs[k].ingots y.ingots) ((HRD.out.up HB1.out).take (by omega)) (by rw [List.length_take]; omega) HCL.out)
        clear HCL HRW HOW1
        cases hE : (xs.take k).any (fun y => commonB xs[k].ingots y.ingots)
        · have e : Hid (allK (meltsAt xs) (k + 1) = true) := (by
            rw [HS.out, Hall.out]; exact meltsAt_yes hlt HO.out HT.out (by simp only [commonB_comm _ xs[k].ingots]; exact hE) : allK (meltsAt xs) (k + 1) = true)
          rw [hE] at HCF
          clear hE
          go_wp2_with fail
          refine HCF.out.mono ?_; rintro e1 w2 ⟨rfl, b2⟩
          have HB2 := Lib.hid (HB1.out.trans (b2.mono HB1.out.size)); clear b2
          go_wp2_with fail
          go_roundw
          case rel => exact ⟨k + 1, by omega, by go_num, e.out, HB2.out⟩
          case measure => simp [intOf]; omega
        · have e : Hid (meltsB xs = false) := (meltsB_no (HF.out (meltsAt_com hlt (by simp only [commonB_comm _ xs[k].ingots]; exact hE))) : meltsB xs = false)
          rw [hE] at HCF
          clear hE
          go_wp2_with fail
          refine HCF.out.mono ?_; rintro e1 w2 ⟨rfl, b2⟩
          have HB2 := Lib.hid (HB1.out.trans (b2.mono HB1.out.size)); clear b2
          go_wp2_with fail
          go_ret
          exact ⟨by rw [e.out]; rfl, HB2.out⟩
    · have e : Hid (allK (meltsAt xs) xs.length = true) := (by
        obtain rfl : k = xs.length := by omega
        exact Hall.out : allK (meltsAt xs) xs.length = true)
      have e2 : Hid (meltsB xs = decide ((xs.length : Int) ≤ 12)) := (by unfold meltsB; rw [e.out, Bool.true_and]; congr 1; exact propext ⟨fun h => by omega, fun h => by omega⟩ : meltsB xs = decide ((xs.length : Int) ≤ 12))
      clear HRD
      go_wp2
      go_ret
      exact ⟨by rw [e2.out]; rfl, hb⟩
end Go.Proofs.Ytklgkbiobggbiaa
namespace Go.Proofs.Ytklgkbiobggbiaa
open Go.ChangeShapes Go.WideShapes Go.ChangeAt Go.RowKit Go.Deep Go.Joins
set_option linter.unusedVariables false
set_option maxRecDepth 100000
set_option linter.unusedSimpArgs false
theorem Melt_info1 : (Try.prog.info? 67).map (fun i => (i.zero, i.size, i.bytes)) = some (some (.agg #[.string ByteArray.empty, .slice none 0 0, .int .i64 0]), 3, 48) := by kernel_rfl
theorem melt_one (a : ByteArray) (g n c : Nat) (m : Int) : ∀ u ∈ [Value.string a, Value.slice (some ⟨g, 0, none⟩) n c, Value.int .i64 m], u.oneCell' = true := by
  intro u hu
  simp at hu
  rcases hu with rfl | rfl | rfl <;> rfl
theorem melt_snoc (xs : List Melt) (x : Melt) : (xs ++ [x]).flatMap Melt.put = xs.flatMap Melt.put ++ [.string x.id, x.list, .int .i64 x.mass] := by rw [List.flatMap_append]; rfl
theorem kids_app {base : Nat} {w w' : World} {v : Value} {n : Nat} {L : List Value} {os : List Melt} {gs : List Nat} (h : Kids base w os gs) (ho : w.ownsRow base 67 3 v n L) (hK : ∀ b E' L', Own w b E' L' → (∀ g', v.ownBlock = some g' → g' ≠ b) → Own w' b E' L') : Kids base w' os gs :=
  h.kept fun b L o => hK b _ L o (own_apart_type ho o (by decide))
theorem idM_isSome_take {xs : List Melt} {a : ByteArray} {k : Nat} (hk : k < xs.length) (h : xs[k].id = a) : (idM xs a).isSome = true := by
  unfold idM
  rw [List.findIdx?_isSome, List.any_eq_true]
  exact ⟨xs[k], List.getElem_mem hk, strEq_iff.2 h⟩
theorem text_eqD {a b : ByteArray} (h : a = b) : (a.toList == b.toList) = true := by rw [h]; simp
theorem text_neD {a b : ByteArray} (h : a ≠ b) : (a.toList == b.toList) = false := by
  rw [beq_eq_false_iff_ne, ByteArray.toList_eq, ByteArray.toList_eq]
  intro q
  apply h
  cases a; cases b
  simpa using q
theorem said_snoc {os ys : List Melt} {x y : Melt} (h : os.map Melt.said = ys.map Melt.said) (h2 : x.said = y.said) : (os ++ [x]).map Melt.said = (ys ++ [y]).map Melt.said := by
  rw [List.map_append, List.map_append, h]
  simp [h2]
theorem kids_snoc2 {base : Nat} {w : World} {os : List Melt} {gs : List Nat} (h : Kids base w os gs) {id : ByteArray} {ids : List ByteArray} {m : Int} {g c : Nat} {V : List Value} (hg : ∀ g' ∈ gs, g' ≠ g) (e2 : ids.length ≤ c) (e3 : c ≤ maxLen) (e4 : base ≤ g) (e5 : Own w g 9 (ids.flatMap putStr ++ V)) :
    Kids base w (os ++ [⟨id, .slice (some ⟨g, 0, none⟩) ids.length c, ids, m⟩]) (gs ++ [g]) := h.snoc hg rfl e2 e3 e4 e5
theorem nest_nil (w : World) (base hi : Nat) : Nest base hi w (.slice none 0 0) [] := ⟨⟨rfl, none, 0, rfl, Nat.le_refl _, Nat.zero_le _, fun _ => ⟨rfl, rfl⟩, fun h => by simp at h⟩, [], Kids.nil _ _, fun g h => by cases h⟩
set_option maxHeartbeats 4000000 in
theorem spec_DropMelt (w : World) (v : Value) (xs : List Melt) (a : ByteArray) (h : RdM w.heap.size w v xs) (hn : xs.length ≤ 1048576) (hf : ∀ x ∈ xs, x.fine) :
    Calls Try.prog 25 #[v, .string a] w fun e w' => ∃ r os, e = .returned (.tuple #[r, .int .i64 (dropS xs a).2]) ∧ Nest w.heap.size w'.heap.size w' r os ∧ os.map Melt.said = (dropS xs a).1.map Melt.said ∧ Below w.heap.size w w' := by
  have HV := Lib.hid (spec_l14Ok w v xs h hn hf)
  obtain ⟨ao, cap, rfl, hcap, hmax, hsome⟩ := h
  cases hM : meltsB xs with
  | false =>
    have e := Lib.hid (drop_bad (a := a) hM)
    rw [hM] at HV
    clear hM hsome
    go_enter Try.func25, Try.ntmps25
    go_wp2_with fail
    refine HV.out.mono ?_; rintro e w1 ⟨rfl, b1⟩
    have HB1 := Lib.hid b1; clear b1
    go_wp2_with fail
    go_ret2
    exact ⟨_, [], by rw [e.out]; try rfl, nest_nil _ _ _, by rw [e.out], HB1.out⟩
  | true =>
    obtain ⟨h12, hall⟩ := meltsB_all hM
    have HA := Lib.hid hall; clear hall
    have HR := Lib.hid (risesM_of hM)
    have HM := Lib.hid hM
    rw [hM] at HV
    obtain ⟨i0, hi, hz0, hz1, hz2⟩ := info_parts Melt_info1
    clear hM
    go_enter Try.func25, Try.ntmps25
    go_wp2_with fail
    refine HV.out.mono ?_; rintro e w1 ⟨rfl, b1⟩
    have HB1 := Lib.hid b1
    have hws1 := b1.size
    clear b1
    go_wp2_with fail
    go_loopw [6, 7] (fun r i wr => ∃ (k : Nat) (os : List Melt) (gs : List Nat), k ≤ xs.length ∧ i = .int .i64 k ∧ os.map Melt.said = (dropF a (xs.take k)).map Melt.said ∧ wr.ownsRow w.heap.size 67 3 r os.length (os.flatMap Melt.put) ∧ Kids w.heap.size wr os gs ∧ Below w.heap.size w wr) (fun _ i _ => xs.length - (intOf i).toNat)
    case atStart => exact ⟨0, [], [], Nat.zero_le _, rfl, rfl, own_empty w1 w.heap.size _ 3 hws1, Kids.nil _ _, HB1.out.alloc hws1 _⟩
    case round =>
      clear HB1
      obtain ⟨k, os, gs, hk, rfl, hsd, hown, hkd, hb⟩ := hrel
      have hol := congrArg List.length hsd
      rw [List.length_map, List.length_map] at hol
      have hdl := dropF_len a xs k
      have HOL : Hid (os.length ≤ k) := Lib.hid (by omega)
      have HOE := Lib.hid hol
      clear hol hdl
      have HS := Lib.hid hsd
      have HO := Lib.hid hown
      obtain ⟨ro, rc, er0⟩ := (own_rd hown).form
      subst er0
      have HKD := Lib.hid hkd
      have HB := Lib.hid hb
      have hws := hb.size
      clear hown hkd hsd
      by_cases hlt : k < xs.length
      · obtain ⟨b, off, rfl, hbB, hc⟩ := hsome (by omega)
        obtain ⟨l, p0, p1, p2, hrd⟩ := hc k hlt
        have hmb := meltB_parts (HA.out xs[k] (List.getElem_mem hlt))
        have c0 := (hb.cell (p := ⟨b, off + k * 3, none⟩) hbB).trans p0
        have hbr : b < wr.heap.size := Nat.lt_of_lt_of_le hbB hb.size
        by_cases hq : xs[k].id = a
        · have t1 := text_eqD hq
          have hdp := Lib.hid (dropF_no hlt (strEq_iff.2 hq))
          clear hb hc hsome hq p0 p1 p2 hrd
          go_wp2_with fail
          go_roundw
          case rel => exact ⟨k + 1, os, gs, by omega, by go_num, by rw [hdp.out]; exact HS.out, HO.out, HKD.out, HB.out⟩
          case measure => simp [intOf]; omega
        · have t1 := text_neD hq
          have hdp := Lib.hid (dropF_yes hlt (a := a) (by rw [← Bool.not_eq_true]; exact fun q => hq (strEq_iff.1 q)))
          have HL := Lib.hid (spec_l14Own wr b (off + k * 3) xs[k].id xs[k].ingots xs[k].mass l c0 ((hb.cell (p := ⟨b, off + k * 3 + 1, none⟩) hbB).trans p1) ((hb.cell (p := ⟨b, off + k * 3 + 2, none⟩) hbB).trans p2) hbr (hrd.up hb) hmb.2.1 (by omega))
          clear hb hc hsome hq p0 p1 p2 hrd
          go_wp2_with fail
          refine HL.out.mono ?_; rintro e w2 ⟨gk, ck, V, rfl, k1, k2, k3, k4, b2⟩
          have HO2 := Lib.hid (own_below HO.out b2 (Nat.le_refl _))
          have HKD2 : Hid (Kids w.heap.size w2 (os ++ [⟨xs[k].id, .slice (some ⟨gk, 0, none⟩) xs[k].ingots.length ck, xs[k].ingots, xs[k].mass⟩]) (gs ++ [gk])) := Lib.hid (kids_snoc2 (HKD.out.below b2) (fun g' hg' => by have := HKD.out.lt g' hg'; omega) k1 k2 (by omega) k4)
          have HB2 := Lib.hid (bnext HB.out b2)
          have hws2 := HB2.out.size
          clear b2 k1 k2 k3 k4 HO HKD HB HL
          go_wp2_with (at_builtin; go_loud (refine app_elK rfl _ _ 51 67 i0 (.agg #[.string ByteArray.empty, .slice none 0 0, .int .i64 0]) 3 48 Try.underlying51 hi hz0 hz1 hz2 (by rfl) (by decide) rfl w2 w.heap.size _ os.length (os.flatMap Melt.put) (by rfl) HO2.out [.string xs[k].id, .slice (some ⟨gk, 0, none⟩) xs[k].ingots.length ck, .int .i64 xs[k].mass] rfl (melt_one _ _ _ _ _) (by first | rfl | (rw [World.size_alloc]; rfl)) (by have := HOL.out; omega) (by decide) hws2 (by rfl) ?_; intro g3 gc3 w3 hown3 hB3 hK3 hy3; have HO3 := Lib.hid hown3; have HB3 := Lib.hid (HB2.out.trans (hB3 _ (Below.refl _ _))); have HK3 := Lib.hid (kids_app HKD2.out HO2.out hK3); clear hown3 hB3 hK3 hy3))
          go_roundw
          case rel => exact ⟨k + 1, _, _, by omega, by go_num, by rw [hdp.out]; exact said_snoc HS.out rfl, by rw [melt_snoc, List.length_append]; exact HO3.out, HK3.out, HB3.out⟩
          case measure => simp [intOf]; omega
      · obtain rfl : k = xs.length := by omega
        have hsz := dropF_size HR.out a
        have hoe := HOE.out
        have hs := HS.out
        rw [List.take_length] at hoe hs
        rw [← hoe] at hsz
        have HS2 := Lib.hid hs
        have hsI : ((os.length : Int) == (xs.length : Int)) = (os.length == xs.length) := by
          rw [Bool.eq_iff_iff, beq_iff_eq, beq_iff_eq]; omega
        rw [← hsI] at hsz
        clear hb hsome hoe hs HOE HS hsI
        cases hI : (idM xs a).isSome with
        | false =>
          have e := Lib.hid (drop_no HM.out hI)
          rw [hI] at hsz
          have hsz2 : ((os.length : Int) == (xs.length : Int)) = true := hsz
          clear hsz hI
          go_wp2_with fail
          go_ret2
          exact ⟨_, [], by rw [e.out]; try rfl, nest_nil _ _ _, by rw [e.out], HB.out⟩
        | true =>
          have e := Lib.hid (drop_yes HM.out hI)
          rw [hI] at hsz
          have hsz2 : ((os.length : Int) == (xs.length : Int)) = false := hsz
          clear hsz hI
          go_wp2_with fail
          go_ret2
          exact ⟨_, os, by rw [e.out]; try rfl, Nest.of HO.out HKD.out, by rw [e.out]; exact HS2.out, HB.out⟩
end Go.Proofs.Ytklgkbiobggbiaa
namespace Go.Proofs.Ytklgkbiobggbiaa
open Go.ChangeShapes Go.WideShapes Go.ChangeAt Go.RowKit Go.Deep Go.Joins
set_option linter.unusedVariables false
set_option maxRecDepth 100000
set_option linter.unusedSimpArgs false
set_option maxHeartbeats 8000000 in
/-- slices.Delete of one element, on a slice of one's own -/
theorem del_Melt (w : World) (base : Nat) (r : Value) (n k : Nat) (L : List Value) (hr : w.ownsRow base 67 3 r n L) (h1c : ∀ u ∈ L, u.oneCell' = true) (hk : k < n) (hn : n ≤ 1048576) (hbase : base ≤ w.heap.size) :
    Calls Try.prog 73 #[r, .int .i64 k, .int .i64 ((k : Int) + 1)] w fun e w' => ∃ ao cap, e = .returned (.slice ao (n - 1) cap) ∧ w'.ownsRow base 67 3 (.slice ao (n - 1) cap) (n - 1) (L.take (k * 3) ++ L.drop ((k + 1) * 3)) ∧ Below base w w' ∧ KeptO w r w' := by
  obtain ⟨i0, hi, hz0, hz1, hz2⟩ := info_parts Melt_info
  have mixed : Try.prog.follows .mixedOrders = true := by kernel_rfl
  obtain ⟨h1, h2⟩ := hr
  rcases h2 with ⟨rfl, h0⟩ | ⟨g, cap, cur, rfl, hb, hg, hnc, hmx, hs, ht⟩
  · omega
  have HG : Hid (Own w g 67 cur.toList) := Lib.hid (by unfold Own; simpa using hg)
  have hgw : g < w.heap.size := HG.out.lt
  have H1c := Lib.hid h1c
  have hmx2 : cap ≤ 9223372036854775807 := hmx
  obtain ⟨A, hA⟩ : ∃ A, A = L.take (k * 3) := ⟨_, rfl⟩
  obtain ⟨X, hX⟩ : ∃ X, X = (L.drop (k * 3)).take 3 := ⟨_, rfl⟩
  obtain ⟨D, hD⟩ : ∃ D, D = L.drop ((k + 1) * 3) := ⟨_, rfl⟩
  have hk1 : (k + 1) * 3 = k * 3 + 3 := by rw [Nat.add_mul, Nat.one_mul]
  have hk2 : (k + 1 + (n - (k + 1))) * 3 = n * 3 := by rw [show k + 1 + (n - (k + 1)) = n from by omega]
  rw [Nat.add_mul] at hk2
  have hkn : (n - 1) * 3 + 3 = n * 3 := by rw [← Nat.succ_mul, show (n - 1).succ = n from by omega]
  have hk3 : (k + (n - (k + 1))) * 3 = (n - 1) * 3 := by rw [show k + (n - (k + 1)) = n - 1 from by omega]
  rw [Nat.add_mul] at hk3
  have hncS : n * 3 ≤ cap * 3 := Nat.mul_le_mul_right _ hnc
  have hAl : A.length = k * 3 := by rw [hA, List.length_take, h1]; omega
  have hXl : X.length = 3 := by rw [hX, List.length_take, List.length_drop, h1]; omega
  have hDl : D.length = (n - (k + 1)) * 3 := by rw [hD, List.length_drop, h1]; omega
  have hAB : L = A ++ (X ++ D) := by rw [hA, hX, hD, hk1, ← List.drop_drop, List.take_append_drop, List.take_append_drop]
  obtain ⟨S, hS⟩ : ∃ S, S = cur.toList.drop (n * 3) := ⟨_, rfl⟩
  have hcur : cur.toList = A ++ (X ++ (D ++ S)) := by rw [← List.append_assoc X, ← List.append_assoc, ← hAB, hS, ← ht, List.take_append_drop]
  have hSl : S.length = cap * 3 - n * 3 := by rw [hS, List.length_drop, Array.length_toList, hs]
  have hcs : Hid (∀ j u, D[j]? = some u → w.cell? ⟨g, k * 3 + 3 + j, none⟩ = some u) := Lib.hid fun j u hj => by
    have hj' := (List.getElem?_eq_some_iff.1 hj).1
    rw [HG.out.cell, hcur, ← hAl, List.getElem?_append_right (by omega), show A.length + 3 + j - A.length = X.length + j from by omega, List.getElem?_append_right (by omega), show X.length + j - X.length = j from by omega, List.getElem?_append_left hj', hj]
  have h1D : Hid (∀ u ∈ D, u.oneCell' = true) := Lib.hid fun u hu => H1c.out u (by rw [hAB]; exact List.mem_append_right _ (List.mem_append_right _ hu))
  rw [hcur] at HG
  rw [← hA, ← hD]
  have hne : ((k : Int) == (k : Int) + 1) = false := beq_eq_false_iff_ne.2 (by omega)
  have hb1 : (0 : Int) ≤ (k : Int) + 1 := by omega
  have htn : ((k : Int) + 1).toNat = k + 1 := by omega
  have hb2 : (k : Int) + 1 ≤ (n : Int) := by omega
  have hb3 : (n : Int) ≤ (cap : Int) := by omega
  have hb4 : (k : Int) ≤ (k : Int) + 1 := by omega
  have hb5 : (k : Int) ≤ (cap : Int) := by omega
  have hb6 : ¬ (cap = k) := by omega
  have ekn : k + (n - (k + 1)) = n - 1 := by omega
  have ekc : ((n - 1 : Nat) : Int) ≤ (n : Int) := by omega
  have hb7 : ¬ (cap = n - 1) := by omega
  have hnn : n - (n - 1) = 1 := by omega
  clear ht hs hcur hS hg hA hX hD hAB h1c h1
  have fin : ∀ w3 (Z : List Value), Hid (Z.length = 1 * 3) → Hid (Own w3 g 67 (splice (splice (A ++ (X ++ (D ++ S))) (k * 3) D) ((n - 1) * 3) Z)) → w3.ownsRow base 67 3 (.slice (some ⟨g, 0, none⟩) (n - 1) cap) (n - 1) (A ++ D) := fun w3 Z hZ ho => by
    have hZ' := hZ.out
    have hl1 : (splice (A ++ (X ++ (D ++ S))) (k * 3) D).length = cap * 3 := by rw [length_splice _ _ _ (by simp only [List.length_append]; omega)]; simp only [List.length_append]; omega
    refine row_of_own ho.out hb (by omega) hmx (by rw [length_splice _ _ _ (by rw [hl1]; omega), hl1]) (by simp only [List.length_append]; omega) ?_
    have := splice_del A X D S Z (by omega)
    rw [show A.length + D.length = (n - 1) * 3 from by omega, hAl] at this
    exact this
  go_enter Try.func73, Try.ntmps73
  by_cases hcj : cap = k + 1
  · obtain rfl : n = k + 1 := by omega
    subst hcj
    have hD0 : D = [] := List.eq_nil_of_length_eq_zero (by rw [hDl]; simp)
    clear hb6 hb7
    go_wp2_with fail
    go_region_law_o (refine sappN rfl _ _ 51 67 rfl i0 3 Try.underlying51 hi hz1 g k (k + 1) (by simp [Act.eval, Act.put]) ⟨g, 0, none⟩ 0 0 (by simp [Act.eval, Act.put]) (A ++ (X ++ (D ++ S))) (by exact HG.out) D (by rw [hD0]; rfl) (fun j u hj => by rw [hD0] at hj; cases hj) h1D.out (by omega) (by simp only [List.length_append]; omega) base w ((Below.refl _ _).drew) hb ?_; intro w1 ho1 hb1' hk1'; rw [Nat.add_zero])
    go_wp2_with (refine clrN rfl _ 51 67 rfl Try.underlying51 (.agg #[.string ByteArray.empty, .slice none 0 0, .int .i64 0]) Try.zeroValue67 (by decide) 3 (by rfl) g (k * 3) 1 _ (by rfl) (by decide) _ ho1.out (by rw [length_splice _ _ _ (by simp only [List.length_append]; omega)]; simp only [List.length_append]; omega) base w hb1'.out hb ?_; intro Z w2 hZ ho2 hb2' hk2')
    go_ret
    exact ⟨some ⟨g, 0, none⟩, k + 1, rfl, fin _ Z hZ ho2, hb2'.out, fun b _ hb0 => (hk2'.out b (fun e => hb0 g rfl e.symm)).trans (hk1'.out b (fun e => hb0 g rfl e.symm))⟩
  · go_wp2_with fail
    go_region_law_o (refine sappN rfl _ _ 51 67 rfl i0 3 Try.underlying51 hi hz1 g k cap (by simp [Act.eval, Act.put]) ⟨g, k * 3 + 3, none⟩ (n - (k + 1)) (cap - (k + 1)) (by simp [Act.eval, Act.put]) (A ++ (X ++ (D ++ S))) (by exact HG.out) D hDl (fun j u hj => by rw [Addr.add_lit]; exact hcs.out j u hj) h1D.out (by omega) (by simp only [List.length_append]; omega) base w ((Below.refl _ _).drew) hb ?_; intro w1 ho1 hb1' hk1'; rw [ekn])
    go_wp2_with (refine clrN rfl _ 51 67 rfl Try.underlying51 (.agg #[.string ByteArray.empty, .slice none 0 0, .int .i64 0]) Try.zeroValue67 (by decide) 3 (by rfl) g ((n - 1) * 3) 1 _ (by rfl) (by decide) _ ho1.out (by rw [length_splice _ _ _ (by simp only [List.length_append]; omega)]; simp only [List.length_append]; omega) base w hb1'.out hb ?_; intro Z w2 hZ ho2 hb2' hk2')
    go_ret
    exact ⟨some ⟨g, 0, none⟩, cap, rfl, fin _ Z hZ ho2, hb2'.out, fun b _ hb0 => (hk2'.out b (fun e => hb0 g rfl e.symm)).trans (hk1'.out b (fun e => hb0 g rfl e.symm))⟩
end Go.Proofs.Ytklgkbiobggbiaa
