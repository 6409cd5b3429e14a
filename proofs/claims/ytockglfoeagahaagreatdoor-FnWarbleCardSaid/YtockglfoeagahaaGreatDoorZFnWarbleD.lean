/- Contracts and plain facts, joined: VSpot, Acc. -/
import Derived.Test.YtockglfoeagahaaGreatDoorRows
import Derived.Test.YtockglfoeagahaaGreatDoorZFnWarbleB
import Derived.Test.YtockglfoeagahaaGreatDoorZFnWarbleC
import Derived.Deep.AppendLies
import Derived.Deep.LoopGhost
namespace Go.Proofs.YtockglfoeagahaaGreatDoor
open Go.ChangeShapes Go.WideShapes Go.ChangeAt Go.RowKit Go.Deep Go.Joins
set_option linter.unusedVariables false
set_option maxRecDepth 100000
set_option linter.unusedSimpArgs false
def ltKSpot (y x : Spot) : Bool := decide (y.angle < x.angle)
def validSpotS (xs : List Spot) : Bool := allK (stepB spotB ltKSpot xs) xs.length && decide (xs.length ≤ 16)

theorem ltKSpot_spec_f {y x : Spot} (h : ltKSpot y x = false) : decide (x.angle ≤ y.angle) = true := by
  simp [ltKSpot] at h ⊢; omega
theorem ltKSpot_spec_t {y x : Spot} (h : ltKSpot y x = true) : decide (x.angle ≤ y.angle) = false := by
  simp [ltKSpot] at h ⊢; omega

set_option maxHeartbeats 1000000 in
theorem impl_validSpot (w : World) (v : Value) (xs : List Spot) (h : Rd w.heap.size w v 2 xs.length (xs.flatMap Spot.put)) (hn : xs.length ≤ 1048576) (hok : ∀ x ∈ xs, x.ok) :
    Calls Tryz.prog 24 #[v] w fun e w' => e = .returned (.bool (validSpotS xs)) ∧ Below w.heap.size w w' := by
  obtain ⟨hL, ao, cap, rfl, hcap, hmax, hnil, hsome⟩ := h
  have Hok := Lib.hid hok; clear hok
  go_enter Tryz.func24, Tryz.ntmps24
  go_wp2
  go_loopw [7] (fun i wr => ∃ (k : Nat), k ≤ xs.length ∧ i = .int .i64 k ∧ allK (stepB spotB ltKSpot xs) k = true ∧ Below w.heap.size w wr) (fun i _ => xs.length - (intOf i).toNat)
  case atStart => exact ⟨0, Nat.zero_le _, rfl, rfl, Below.refl _ _⟩
  case round =>
    obtain ⟨k, hk, rfl, hall, hb⟩ := hrel
    have Hall := Lib.hid hall; clear hall
    by_cases hlt : k < xs.length
    · obtain ⟨b, off, rfl, hbB, hc⟩ := hsome (by omega)
      have hok := Hok.out
      have c0 : wr.cell? ⟨b, off + k * 2, none⟩ = some (.int .i64 xs[k].angle) := by
        rw [show off + k * 2 = off + (k * 2 + 0) from by omega, hb.cell (p := ⟨b, off + (k * 2 + 0), none⟩) hbB, hc (k * 2 + 0) (by omega), Spot_get0 xs k hlt]
      have c1 : wr.cell? ⟨b, off + k * 2 + 1, none⟩ = some (.int .i64 xs[k].weight) := by
        rw [show off + k * 2 + 1 = off + (k * 2 + 1) from by omega, hb.cell (p := ⟨b, off + (k * 2 + 1), none⟩) hbB, hc (k * 2 + 1) (by omega), Spot_get1 xs k hlt]
      have hbr : b < wr.heap.size := Nat.lt_of_lt_of_le hbB hb.size
      have HS := Lib.hid (allK_succ (stepB spotB ltKSpot xs) k)
      have HF := Lib.hid (allK_false (stepB spotB ltKSpot xs) xs.length k hlt)
      cases hO : spotB xs[k]
      · have e : Hid (validSpotS xs = false) := (by unfold validSpotS; rw [HF.out (stepB_no hlt hO)]; rfl : validSpotS xs = false)
        have HB := Lib.hid hb
        clear hc hsome hnil hb hok
        go_wp2_with fail
        refine wp_region_above (by kernel_rfl) (by kernel_rfl) ?_
        repeat (go_big_quiet_step ((first | (go_at_call 32; exact aboveC (impl_isSpot_is xs[k] _ (by assumption) (Hok.out _ (List.getElem_mem hlt)))))))
        refine wpQuiet_nil ?_
        intro w1 b1
        have hsz := HB.out.size
        have HB1 := Lib.hid (HB.out.trans (Below.trans (((Below.refl _ _).alloc hsz _)) (b1.mono (by simp; omega)))); clear b1 HB
        go_wp2_with fail
        go_ret
        exact ⟨by rw [e.out]; rfl, HB1.out⟩
      by_cases hk0 : k = 0
      · have e : Hid (allK (stepB spotB ltKSpot xs) (k + 1) = true) := (by subst hk0; rw [HS.out, stepB_zero hlt hO]; rfl : allK (stepB spotB ltKSpot xs) (k + 1) = true)
        have hz : decide (0 < k) = false := decide_eq_false (by omega)
        have HB := Lib.hid hb
        clear hc hsome hnil hb hok hk0
        go_wp2_with fail
        refine wp_region_above (by kernel_rfl) (by kernel_rfl) ?_
        repeat (go_big_quiet_step ((first | (go_at_call 32; exact aboveC (impl_isSpot_is xs[k] _ (by assumption) (Hok.out _ (List.getElem_mem hlt)))))))
        refine wpQuiet_nil ?_
        intro w1 b1
        have hsz := HB.out.size
        have HB1 := Lib.hid (HB.out.trans (Below.trans (((Below.refl _ _).alloc hsz _)) (b1.mono (by simp; omega)))); clear b1 HB
        go_wp2_with fail
        go_roundw
        case rel => exact ⟨k + 1, by omega, by go_num, e.out, HB1.out⟩
        case measure => simp [intOf]; omega
      · have hpos : 0 < k := by omega
        have hz : decide (0 < k) = true := decide_eq_true (by omega)
        have p0 : wr.cell? ⟨b, off + (k - 1) * 2, none⟩ = some (.int .i64 xs[k - 1].angle) := by
          rw [show off + (k - 1) * 2 = off + ((k - 1) * 2 + 0) from by omega, hb.cell (p := ⟨b, off + ((k - 1) * 2 + 0), none⟩) hbB, hc ((k - 1) * 2 + 0) (by omega), Spot_get0 xs (k - 1) (by omega)]
        cases hT : ltKSpot xs[k - 1] xs[k]
        · have e : Hid (validSpotS xs = false) := (by unfold validSpotS; rw [HF.out (stepB_lt hlt hpos hO hT)]; rfl : validSpotS xs = false)
          have t1 : (decide (xs[k].angle ≤ xs[k - 1].angle)) = true := ltKSpot_spec_f hT
          have HB := Lib.hid hb
          clear hc hsome hnil hb hok hT
          go_wp2_with fail
          refine wp_region_above (by kernel_rfl) (by kernel_rfl) ?_
          repeat (go_big_quiet_step ((first | (go_at_call 32; exact aboveC (impl_isSpot_is xs[k] _ (by assumption) (Hok.out _ (List.getElem_mem hlt)))))))
          refine wpQuiet_nil ?_
          intro w1 b1
          have hsz := HB.out.size
          have HB1 := Lib.hid (HB.out.trans (Below.trans (((Below.refl _ _).alloc hsz _)) (b1.mono (by simp; omega)))); clear b1 HB
          go_wp2_with fail
          go_ret
          exact ⟨by rw [e.out]; rfl, HB1.out⟩
        · have e : Hid (allK (stepB spotB ltKSpot xs) (k + 1) = true) := (by rw [HS.out, Hall.out, stepB_yes hlt hpos hO hT]; rfl : allK (stepB spotB ltKSpot xs) (k + 1) = true)
          have t1 : (decide (xs[k].angle ≤ xs[k - 1].angle)) = false := ltKSpot_spec_t hT
          have HB := Lib.hid hb
          clear hc hsome hnil hb hok hT
          go_wp2_with fail
          refine wp_region_above (by kernel_rfl) (by kernel_rfl) ?_
          repeat (go_big_quiet_step ((first | (go_at_call 32; exact aboveC (impl_isSpot_is xs[k] _ (by assumption) (Hok.out _ (List.getElem_mem hlt)))))))
          refine wpQuiet_nil ?_
          intro w1 b1
          have hsz := HB.out.size
          have HB1 := Lib.hid (HB.out.trans (Below.trans (((Below.refl _ _).alloc hsz _)) (b1.mono (by simp; omega)))); clear b1 HB
          go_wp2_with fail
          go_roundw
          case rel => exact ⟨k + 1, by omega, by go_num, e.out, HB1.out⟩
          case measure => simp [intOf]; omega
    · have e : Hid (validSpotS xs = decide (xs.length ≤ 16)) := (by
        unfold validSpotS
        obtain rfl : k = xs.length := by omega
        rw [Hall.out]; rfl : validSpotS xs = decide (xs.length ≤ 16))
      go_wp2
      go_ret
      exact ⟨by rw [e.out]; congr 2; simp; try omega, hb⟩
end Go.Proofs.YtockglfoeagahaaGreatDoor
namespace Go.Proofs.YtockglfoeagahaaGreatDoor
open Go.ChangeShapes Go.WideShapes Go.ChangeAt Go.RowKit Go.Deep Go.Joins
set_option linter.unusedVariables false
set_option maxRecDepth 100000
set_option linter.unusedSimpArgs false
/-- block g of the call's own, or nil: reads as the cells L -/
theorem own_rd {w : World} {base : Nat} {E : TypeId} {s n : Nat} {v : Value} {L : List Value} (h : w.ownsRow base E s v n L) : Rd w.heap.size w v s n L := by
  obtain ⟨h1, h2⟩ := h
  rcases h2 with ⟨rfl, rfl⟩ | ⟨g, cap, cur, rfl, hb, hg, hn, hm, hs, ht⟩
  · have : L = [] := List.eq_nil_of_length_eq_zero (by simpa using h1)
    subst this
    exact ⟨by simp, none, 0, rfl, Nat.le_refl _, Nat.zero_le _, fun _ => ⟨rfl, rfl⟩, fun h => by omega⟩
  · refine ⟨h1, _, cap, rfl, hn, hm, (fun h => by cases h), fun _ => ⟨g, 0, rfl, (Array.getElem?_eq_some_iff.1 hg).1, fun i hi => ?_⟩⟩
    rw [← ht, List.getElem?_take_of_lt hi, Nat.zero_add]
    simp [World.cell?, hg]
theorem own_below {w w' : World} {B base : Nat} {E : TypeId} {s n : Nat} {v : Value} {L : List Value} (h : w.ownsRow base E s v n L) (hb : Below B w w') (hB : w.heap.size ≤ B) : w'.ownsRow base E s v n L := by
  obtain ⟨h1, h2⟩ := h
  refine ⟨h1, ?_⟩
  rcases h2 with h2 | ⟨g, cap, cur, rfl, hg0, hg, rest⟩
  · exact .inl h2
  · exact .inr ⟨g, cap, cur, rfl, hg0, (hb.block g (Nat.lt_of_lt_of_le (Array.getElem?_eq_some_iff.1 hg).1 hB)).trans hg, rest⟩
/-- behind an append: what lay below the call's own blocks is as it was -/
theorem grown_below {W w w' : World} {base : Nat} {E : TypeId} {s n : Nat} {v : Value} {L : List Value} (hb : Below base W w) (h : w.ownsRow base E s v n L) (hW : base ≤ w.heap.size) (hg : w.grownBy w' v.ownBlock) : Below base W w' := by
  refine hb.trans ⟨hg.os, hg.tape, hg.output, hg.size, fun b hlt => hg.block b (by omega) ?_⟩
  intro e
  have := (h.lt b e.symm).1
  omega
/-- a slice of the call's own as one fact: its value, its block from B on -/
def Acc (B : Nat) (w : World) (E : TypeId) (s : Nat) (v : Value) (n : Nat) (L : List Value) : Prop := w.ownsRow B E s v n L
theorem own_empty (w : World) (base : Nat) (E : TypeId) (s : Nat) (h : base ≤ w.heap.size) : (w.alloc (.cells #[] E)).ownsRow base E s (.slice (some ⟨w.heap.size, 0, none⟩) 0 0) 0 [] := by
  refine ⟨by simp, .inr ⟨w.heap.size, 0, #[], rfl, h, ?_, Nat.le_refl _, Nat.zero_le _, by simp, by simp⟩⟩
  exact Own.new w E []
theorem own_nil (w : World) (base : Nat) (E : TypeId) (s : Nat) : w.ownsRow base E s (.slice none 0 0) 0 [] := ⟨by simp, .inl ⟨rfl, rfl⟩⟩
theorem own_drew {w : World} {base : Nat} {E : TypeId} {s n : Nat} {v : Value} {L : List Value} (h : w.ownsRow base E s v n L) (m : Nat) : (w.drewN m).ownsRow base E s v n L := h

/-- 'append(out, x)' of one element: the element lies in a block of its own, the last one -/
theorem app_el {P : Program} {ops : Array Oper} {rest : List Oper} {o : Oper} {a : Act} {Q : Exit → Act → World → Prop} (hgd : o.guard = none) (s x : Operand) (T E : TypeId) (i : TypeInfo) (z : Value) (sz bytes : Nat)
    (hT : P.underlying T = some (.slice E)) (hi : P.info? E = some i) (hz : i.zero = some z) (h1 : i.size = sz) (h2 : i.bytes = bytes) (hzs : z.cells.size = sz) (hsz : 0 < sz)
    (ho : o.op = .call { callee := .builtin .append, args := #[s, x], argTypes := #[T, T] }) (w0 : World) (base : Nat) (v : Value) (n : Nat) (L : List Value) (hs : a.eval s = v) (hown : w0.ownsRow base E sz v n L)
    (cs : List Value) (hcs : cs.length = sz) (hone : ∀ u ∈ cs, u.oneCell' = true) (hx : a.eval x = .slice (some ⟨w0.heap.size, 0, none⟩) 1 1) (hn : n + 1 ≤ 2097152) (hby : bytes ≤ 64) (hbase : base ≤ w0.heap.size)
    (h : ∀ g cap w', w'.ownsRow base E sz (.slice (some ⟨g, 0, none⟩) (n + 1) cap) (n + 1) (L ++ cs) → (∀ W, Below base W w0 → Below base W w') → w0.heap.size < w'.heap.size → wpList P ops Q rest (a.put o.dst (.slice (some ⟨g, 0, none⟩) (n + 1) cap)) w') :
    wpList P ops Q (o :: rest) a (w0.alloc (.cells cs.toArray E)) := by
  have hb : (n + 1) * bytes ≤ 140737488355328 := by
    have := Nat.mul_le_mul hn hby
    omega
  refine wpList_append_lies _ hgd s x T ho base E i z sz bytes hT hi hz h1 h2 hzs hsz v n L hs (hown.alloc _) ⟨w0.heap.size, 0, none⟩ 1 1 cs hx (by omega) (World.news_of_block (Own.new w0 E cs)) hone (by omega) (by unfold maxLen; omega) hb (by simp; omega) _ rfl ?_
  intro g cap w' hown' hgrow _ _
  refine h g cap w' hown' (fun W hW => ?_) ?_
  · exact grown_below (hW.alloc hbase _) (hown.alloc _) (by simp; omega) hgrow
  · have := hgrow.size
    simp at this; omega
end Go.Proofs.YtockglfoeagahaaGreatDoor
