/- Contracts and plain facts, joined: Split. -/
import Derived.Test.YtockglfoeagahaaGreatDoorRows
import Derived.Test.YtockglfoeagahaaGreatDoorZFnWarbleI
namespace Go.Proofs.YtockglfoeagahaaGreatDoor
open Go.ChangeShapes Go.WideShapes Go.ChangeAt Go.RowKit Go.Deep Go.Joins
set_option linter.unusedVariables false
set_option maxRecDepth 100000
set_option linter.unusedSimpArgs false
theorem impl_ValidSpots_is {r : Bool} (w : World) (v : Value) (xs : List Spot) (h : Rd w.heap.size w v 2 xs.length (xs.flatMap Spot.put)) (hn : xs.length ≤ 1048576) (hok : ∀ x ∈ xs, x.ok) (hr : validSpotS xs = r) :
    Calls Tryz.prog 24 #[v] w fun e w' => e = .returned (.bool r) ∧ Below w.heap.size w w' := by
  subst hr; exact impl_validSpot w v xs h hn hok
theorem impl_WaveSine_is {r : Int} (d : Int) (w : World) (hd : I64 d) (hs : Sines w) (hr : sineS d = r) : Calls Tryz.prog 64 #[.int .i64 d] w fun e w' => e = .returned (.int .i64 r) ∧ w = w' := by
  subst hr; exact impl_WaveSine d w hd hs
theorem impl_WaveCosine_is {r : Int} (d : Int) (w : World) (hd : I64 d) (hs : Sines w) (hr : cosS d = r) : Calls Tryz.prog 63 #[.int .i64 d] w fun e w' => e = .returned (.int .i64 r) ∧ w = w' := by
  subst hr
  rw [← cosS_mod]; exact impl_WaveCosine d w hd hs

theorem impl_WaveSine_above {r : Int} (d : Int) (W x : World) (hd : I64 d) (hs : Sines W) (hg : 0 < W.heap.size) (hr : sineS d = r) : Calls Tryz.prog 64 #[.int .i64 d] (above W x) fun e w' => e = .returned (.int .i64 r) ∧ ∃ m, w' = above W m :=
  aboveE (impl_WaveSine_is d _ hd (hs.below (above_below W x) hg) hr)
theorem impl_WaveCosine_above {r : Int} (d : Int) (W x : World) (hd : I64 d) (hs : Sines W) (hg : 0 < W.heap.size) (hr : cosS d = r) : Calls Tryz.prog 63 #[.int .i64 d] (above W x) fun e w' => e = .returned (.int .i64 r) ∧ ∃ m, w' = above W m :=
  aboveE (impl_WaveCosine_is d _ hd (hs.below (above_below W x) hg) hr)

set_option maxHeartbeats 4000000 in
theorem impl_waveSums (w : World) (v : Value) (xs : List Spot) (n : Int) (hs : Sines w) (hg : 0 < w.heap.size) (h : Rd w.heap.size w v 2 xs.length (xs.flatMap Spot.put)) (hl : xs.length ≤ 16) (hv : ∀ x ∈ xs, spotB x = true) (hn : 2 ≤ n ∧ n ≤ 6) :
    Calls Tryz.prog 44 #[v, .int .i64 n] w fun e w' => e = .returned (.tuple #[.int .i64 (divR (wsum cosS n xs) 1000), .int .i64 (divR (wsum sineS n xs) 1000)]) ∧ Below w.heap.size w w' := by
  have HSI := Lib.hid hs; clear hs
  have HG := Lib.hid hg; clear hg
  obtain ⟨hL, ao, cap, rfl, hcap, hmax, hnil, hsome⟩ := h
  have HC := Lib.hid (wsum_take_bd cosS cosS_bd n hv hl)
  have HS := Lib.hid (wsum_take_bd sineS sineS_bd n hv hl)
  have HV := Lib.hid hv; clear hv
  go_enter Tryz.func44, Tryz.ntmps44
  go_wp2
  go_loopw [6, 7, 12] (fun c s i wr => ∃ (k : Nat), k ≤ xs.length ∧ i = .int .i64 k ∧ c = .int .i64 (wsum cosS n (xs.take k)) ∧ s = .int .i64 (wsum sineS n (xs.take k)) ∧ Below w.heap.size w wr) (fun _ _ i _ => xs.length - (intOf i).toNat)
  case atStart => exact ⟨0, Nat.zero_le _, rfl, rfl, rfl, Below.refl _ _⟩
  case round =>
    obtain ⟨k, hk, rfl, rfl, rfl, hb⟩ := hrel
    obtain ⟨m1, m2⟩ := HC.out k
    obtain ⟨m3, m4⟩ := HS.out k
    by_cases hlt : k < xs.length
    · obtain ⟨b, off, rfl, hbB, hc⟩ := hsome (by omega)
      have c0 : wr.cell? ⟨b, off + k * 2, none⟩ = some (.int .i64 xs[k].angle) := by
        rw [show off + k * 2 = off + (k * 2 + 0) from by omega, hb.cell (p := ⟨b, off + (k * 2 + 0), none⟩) hbB, hc (k * 2 + 0) (by omega), Spot_get0 xs k hlt]
      have c1 : wr.cell? ⟨b, off + k * 2 + 1, none⟩ = some (.int .i64 xs[k].weight) := by
        rw [show off + k * 2 + 1 = off + (k * 2 + 1) from by omega, hb.cell (p := ⟨b, off + (k * 2 + 1), none⟩) hbB, hc (k * 2 + 1) (by omega), Spot_get1 xs k hlt]
      have hsp := HV.out xs[k] (List.getElem_mem hlt)
      obtain ⟨a1, a2⟩ := angle_bd hn (spotB_nums hsp).1
      have ha := (spotB_nums hsp).1
      have hw := (spotB_nums hsp).2
      obtain ⟨u1, hu1, t1, t2⟩ : ∃ u, cosS (2 * n * xs[k].angle) = u ∧ -1000000000 ≤ xs[k].weight * u ∧ xs[k].weight * u ≤ 1000000000 := ⟨_, rfl, term_bd hsp (cosS_bd _)⟩
      obtain ⟨u2, hu2, t3, t4⟩ : ∃ u, sineS (2 * n * xs[k].angle) = u ∧ -1000000000 ≤ xs[k].weight * u ∧ xs[k].weight * u ≤ 1000000000 := ⟨_, rfl, term_bd hsp (sineS_bd _)⟩
      have E1 : Hid (wsum cosS n (xs.take (k + 1)) = wsum cosS n (xs.take k) + xs[k].weight * u1) := (by rw [← hu1]; exact wsum_succ cosS n xs k hlt : wsum cosS n (xs.take (k + 1)) = wsum cosS n (xs.take k) + xs[k].weight * u1)
      have E2 : Hid (wsum sineS n (xs.take (k + 1)) = wsum sineS n (xs.take k) + xs[k].weight * u2) := (by rw [← hu2]; exact wsum_succ sineS n xs k hlt : wsum sineS n (xs.take (k + 1)) = wsum sineS n (xs.take k) + xs[k].weight * u2)
      have U1 := Lib.hid hu1
      have U2 := Lib.hid hu2
      clear hc hsome hnil hsp hu1 hu2
      generalize wsum cosS n (xs.take k) = S1 at *
      generalize wsum sineS n (xs.take k) = S2 at *
      have n1 : 0 ≤ 2 * n ∧ 2 * n ≤ 12 := by omega
      have hws := hb.size
      have HB0 := Lib.hid hb
      have HBX : Hid (Below w.heap.size w (wr.alloc (Obj.cells #[Value.int IntKind.i64 xs[k].angle, Value.int IntKind.i64 xs[k].weight] 38))) := hb.alloc hws _
      have HSX := Lib.hid (HSI.out.below HBX.out HG.out)
      have HGX : Hid (0 < (wr.alloc (Obj.cells #[Value.int IntKind.i64 xs[k].angle, Value.int IntKind.i64 xs[k].weight] 38)).heap.size) := Nat.lt_of_lt_of_le HG.out HBX.out.size
      have HOW := Lib.hid (Own.new wr 38 [Value.int IntKind.i64 xs[k].angle, Value.int IntKind.i64 xs[k].weight])
      clear hb
      go_wp2_with fail
      refine wp_region_above (by kernel_rfl) (by kernel_rfl) ?_
      repeat (go_big_quiet_step (((go_at_call 63; exact impl_WaveCosine_above _ _ _ ⟨by omega, by omega⟩ HSX.out HGX.out U1.out))))
      refine wpQuiet_nil ?_
      intro w1 b1
      have HOW1 := Lib.hid (HOW.out.below b1 HOW.out.lt)
      have HB1 := Lib.hid (HBX.out.trans (b1.mono HBX.out.size)); clear b1 HB0 HOW c0 c1
      have d0 : w1.cell? ⟨wr.heap.size, 0, none⟩ = some (.int .i64 xs[k].angle) := HOW1.out.cell 0
      have d1 : w1.cell? ⟨wr.heap.size, 1, none⟩ = some (.int .i64 xs[k].weight) := HOW1.out.cell 1
      have hlo : wr.heap.size < w1.heap.size := HOW1.out.lt
      have HSY := Lib.hid (HSI.out.below HB1.out HG.out)
      have HGY : Hid (0 < w1.heap.size) := Nat.lt_of_lt_of_le HG.out HB1.out.size
      go_wp2_with fail
      refine wp_region_above (by kernel_rfl) (by kernel_rfl) ?_
      repeat (go_big_quiet_step (((go_at_call 64; exact impl_WaveSine_above _ _ _ ⟨by omega, by omega⟩ HSY.out HGY.out U2.out))))
      refine wpQuiet_nil ?_
      intro w2 b2
      have HB2 := Lib.hid (HB1.out.trans (b2.mono HB1.out.size)); clear b2
      go_wp2_with fail
      go_roundw
      case rel => exact ⟨k + 1, by omega, by go_num, by rw [E1.out], by rw [E2.out], HB2.out⟩
      case measure => simp [intOf]; omega
    · have e1 : Hid (xs.take k = xs) := (List.take_of_length_le (by omega) : xs.take k = xs)
      have HB := Lib.hid hb; clear hb
      clear hsome hnil
      go_wp2_with (first | (go_at_call 65; refine (impl_nearest _ _ _ (by omega) (by omega) (by omega) (by omega)).mono ?_; rintro e w' ⟨rfl, nn, rfl⟩))
      go_ret2
      exact ⟨by rw [e1.out]; rfl, below_dn HB.out _⟩

theorem impl_splitOf (w : World) (v : Value) (xs : List Spot) (n : Int) (hs : Sines w) (hg : 0 < w.heap.size) (h : Rd w.heap.size w v 2 xs.length (xs.flatMap Spot.put)) (hl : xs.length ≤ 16) (hv : ∀ x ∈ xs, spotB x = true) (hn : 2 ≤ n ∧ n ≤ 6) :
    Calls Tryz.prog 22 #[v, .int .i64 n] w fun e w' => e = .returned (.int .i64 (splitN n xs)) ∧ Below w.heap.size w w' := by
  have HX := Lib.hid (impl_waveSums w v xs n hs hg h hl hv hn)
  have h1 := wsum_take_bd cosS cosS_bd n hv hl xs.length
  have h2 := wsum_take_bd sineS sineS_bd n hv hl xs.length
  rw [List.take_of_length_le (Nat.le_refl _)] at h1 h2
  obtain ⟨p1, p2⟩ := sq_abs (divR_thou h1)
  obtain ⟨p3, p4⟩ := sq_abs (divR_thou h2)
  unfold splitN
  clear hs h hv h1 h2
  generalize divR (wsum cosS n xs) 1000 = c at *
  generalize divR (wsum sineS n xs) 1000 = s at *
  go_enter Tryz.func22, Tryz.ntmps22
  go_wp2_with fail
  refine HX.out.mono ?_; rintro e w1 ⟨rfl, b1⟩
  go_wp2_with fail
  refine (impl_RootOf _ _ (by omega) (by omega)).mono ?_; rintro e w2 ⟨rfl, rfl⟩
  go_wp2_with fail
  go_ret
  exact ⟨rfl, b1⟩
end Go.Proofs.YtockglfoeagahaaGreatDoor
