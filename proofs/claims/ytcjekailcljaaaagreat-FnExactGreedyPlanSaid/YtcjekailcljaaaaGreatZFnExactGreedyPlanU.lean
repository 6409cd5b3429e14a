/- Contracts and plain facts, joined: CutS, AppSl. -/
import Derived.Test.YtcjekailcljaaaaGreatRows
import Derived.Test.YtcjekailcljaaaaGreatZFnExactGreedyPlanI
import Derived.Test.YtcjekailcljaaaaGreatZFnExactGreedyPlanT
import Derived.Laws.AppendOwnNone
namespace Go.Proofs.YtcjekailcljaaaaGreat
open Go.ChangeShapes Go.WideShapes Go.ChangeAt Go.RowKit Go.Deep Go.Joins
set_option linter.unusedVariables false
set_option maxRecDepth 100000
set_option linter.unusedSimpArgs false
theorem made8 : (madeCells (Value.int .i64 0).cells (8 * 1)).toList = (List.replicate 8 (0 : Int)).flatMap putI := by first | rfl | kernel_rfl
/-- what a store of steps needs -/
theorem sums_set {w : World} {g : Nat} {cs : List Cut} {k Z : Nat} (hk : k < cs.length) (hz : cs[k].zone = (Z : Int)) (h8 : Z < 8) (o : Own w g 2 ((sumsK cs k).flatMap putI)) {old : Int} (ho : (sumsK cs k)[Z]? = some old) :
    Own (w.setCell ⟨g, Z, none⟩ (.int .i64 (old + cs[k].steps))) g 2 ((sumsK cs (k + 1)).flatMap putI) := by
  have := o.set Z (.int .i64 (old + cs[k].steps))
  rw [set_putI _ _ _ (by rw [sumsK_len]; exact h8)] at this
  rw [sumsK_succ hk, addAt, hz, Int.toNat_natCast, List.getD_eq_getElem?_getD, ho]
  exact this
set_option maxHeartbeats 3000000 in
theorem spec_l09Sums (w : World) (ao : Option Addr) (cap : Nat) (cs : List Cut) (h : Rd w.heap.size w (.slice ao cs.length cap) 2 cs.length (cs.flatMap Cut.put)) (hc : cutsB cs = true) :
    Calls Tryz.prog 62 #[.slice ao cs.length cap] w fun e w' => ∃ g, e = .returned (.slice (some ⟨g, 0, none⟩) 8 8) ∧ w.heap.size ≤ g ∧ Own w' g 2 ((sumsS cs).flatMap putI) ∧ Below w.heap.size w w' := by
  obtain ⟨h64, hall⟩ := cutsB_parts hc
  have HALL := Lib.hid hall
  clear hc hall
  have H := Lib.hid h
  obtain ⟨i0, hi, hz0, hz1, hz2⟩ := info_parts info_i64
  clear h
  go_enter Tryz.func62, Tryz.ntmps62
  go_wp2_with (at_make; refine wpList_make_blk _ rfl _ _ 22 rfl 2 i0 (.int .i64 0) 1 8 Tryz.underlying22 hi hz0 hz1 hz2 _ _ _ _ 8 rfl rfl rfl rfl (by omega) (by unfold maxLen; omega) ?_; intro w1 ho hb hs)
  rw [made8] at ho
  have HO := Lib.hid ho
  have HB := Lib.hid hb
  clear ho hb hi hz0 hz1 hz2
  go_loopw [4] (fun i wr => ∃ (k : Nat), k ≤ cs.length ∧ i = .int .i64 k ∧ Own wr w.heap.size 2 ((sumsK cs k).flatMap putI) ∧ Below w.heap.size w wr) (fun i _ => cs.length - (intOf i).toNat)
  case atStart => exact ⟨0, Nat.zero_le _, rfl, HO.out, HB.out⟩
  case round =>
    clear HO HB hs
    obtain ⟨k, hk, rfl, ho, hb⟩ := hrel
    have HB := Lib.hid hb
    have HO := Lib.hid ho
    by_cases hlt : k < cs.length
    · have hco := HALL.out cs[k] (List.getElem_mem hlt)
      obtain ⟨Z, hZ⟩ : ∃ Z : Nat, cs[k].zone = (Z : Int) := ⟨cs[k].zone.toNat, by omega⟩
      have hZ8 : Z < 8 := by omega
      obtain ⟨hL, ao', cap', ee, _, _, _, hsome⟩ := H.out
      injection ee with q1 q2 q3
      subst q1 q3
      obtain ⟨b, off, rfl, hbB, hcc⟩ := hsome (by omega)
      have c0 : wr.cell? ⟨b, off + k * 2, none⟩ = some (.int .i64 (Z : Int)) := by rw [show off + k * 2 = off + (k * 2 + 0) from by omega, hb.cell (p := ⟨b, off + (k * 2 + 0), none⟩) hbB, hcc (k * 2 + 0) (by omega), Cut_get0 cs k hlt, hZ]
      have c1 : wr.cell? ⟨b, off + k * 2 + 1, none⟩ = some (.int .i64 cs[k].steps) := by rw [show off + k * 2 + 1 = off + (k * 2 + 1) from by omega, hb.cell (p := ⟨b, off + (k * 2 + 1), none⟩) hbB, hcc (k * 2 + 1) (by omega), Cut_get1 cs k hlt]
      have hbr : b < wr.heap.size := Nat.lt_of_lt_of_le hbB hb.size
      have hl8 : Z < (sumsK cs k).length := by rw [sumsK_len]; exact hZ8
      obtain ⟨old, hold⟩ : ∃ old, (sumsK cs k)[Z]'hl8 = old := ⟨_, rfl⟩
      have hold2 : (sumsK cs k)[Z]? = some old := by rw [List.getElem?_eq_getElem hl8, hold]
      have hob := sumsK_bd HALL.out k (by omega) old (by rw [← hold]; exact List.getElem_mem hl8)
      have d0 : wr.cell? ⟨w.heap.size, Z, none⟩ = some (.int .i64 old) := by rw [ho.cell, putI_get _ Z hl8, hold]
      have f0 := ho.free Z
      have hg := ho.lt
      have hne : ¬ b = w.heap.size := by omega
      have hne2 : ¬ w.heap.size = b := by omega
      have HS1 := Lib.hid (sums_set hlt hZ hZ8 ho hold2)
      have HB1 := Lib.hid ((Below.setCell hb (Nat.le_refl w.heap.size) (.int .i64 (old + cs[k].steps)) : Below w.heap.size w (wr.setCell ⟨w.heap.size, Z, none⟩ _)))
      have hZI : (Z : Int) < 8 := by omega
      have hZ0 : (0 : Int) ≤ (Z : Int) := by omega
      obtain ⟨hs0, hs1⟩ := hco.2
      have hkl : k < cs.length := hlt
      clear hcc hsome ho hb hold hold2 hco hZ q2 hL
      generalize cs[k].steps = st at *
      go_wp2_with fail
      go_region
      go_wp2_with fail
      go_roundw
      case rel => exact ⟨k + 1, by omega, by go_num, HS1.out, HB1.out.drew⟩
      case measure => simp [intOf]; omega
    · obtain rfl : k = cs.length := by omega
      clear hb ho
      go_wp2_with fail
      go_ret
      exact ⟨w.heap.size, rfl, Nat.le_refl _, HO.out, HB.out⟩
set_option maxHeartbeats 3000000 in
theorem impl_stepsOf (w : World) (ao : Option Addr) (cap : Nat) (cs : List Cut) (h : Rd w.heap.size w (.slice ao cs.length cap) 2 cs.length (cs.flatMap Cut.put)) (hc : cutsB cs = true) :
    Calls Tryz.prog 78 #[.slice ao cs.length cap] w fun e w' => ∃ g, e = .returned (.slice (some ⟨g, 0, none⟩) 8 8) ∧ w.heap.size ≤ g ∧ Own w' g 2 ((sumsS cs).flatMap putI) ∧ Below w.heap.size w w' := by
  obtain ⟨h64, hall⟩ := cutsB_parts hc
  have HALL := Lib.hid hall
  clear hc hall
  have H := Lib.hid h
  obtain ⟨i0, hi, hz0, hz1, hz2⟩ := info_parts info_i64
  clear h
  go_enter Tryz.func78, Tryz.ntmps78
  go_wp2_with (at_make; refine wpList_make_blk _ rfl _ _ 22 rfl 2 i0 (.int .i64 0) 1 8 Tryz.underlying22 hi hz0 hz1 hz2 _ _ _ _ 8 rfl rfl rfl rfl (by omega) (by unfold maxLen; omega) ?_; intro w1 ho hb hs)
  rw [made8] at ho
  have HO := Lib.hid ho
  have HB := Lib.hid hb
  clear ho hb hi hz0 hz1 hz2
  go_loopw [9] (fun i wr => ∃ (k : Nat), k ≤ cs.length ∧ i = .int .i64 k ∧ Own wr w.heap.size 2 ((sumsK cs k).flatMap putI) ∧ Below w.heap.size w wr) (fun i _ => cs.length - (intOf i).toNat)
  case atStart => exact ⟨0, Nat.zero_le _, rfl, HO.out, HB.out⟩
  case round =>
    clear HO HB hs
    obtain ⟨k, hk, rfl, ho, hb⟩ := hrel
    have HB := Lib.hid hb
    have HO := Lib.hid ho
    by_cases hlt : k < cs.length
    · have hco := HALL.out cs[k] (List.getElem_mem hlt)
      obtain ⟨Z, hZ⟩ : ∃ Z : Nat, cs[k].zone = (Z : Int) := ⟨cs[k].zone.toNat, by omega⟩
      have hZ8 : Z < 8 := by omega
      obtain ⟨hL, ao', cap', ee, _, _, _, hsome⟩ := H.out
      injection ee with q1 q2 q3
      subst q1 q3
      obtain ⟨b, off, rfl, hbB, hcc⟩ := hsome (by omega)
      have c0 : wr.cell? ⟨b, off + k * 2, none⟩ = some (.int .i64 (Z : Int)) := by rw [show off + k * 2 = off + (k * 2 + 0) from by omega, hb.cell (p := ⟨b, off + (k * 2 + 0), none⟩) hbB, hcc (k * 2 + 0) (by omega), Cut_get0 cs k hlt, hZ]
      have c1 : wr.cell? ⟨b, off + k * 2 + 1, none⟩ = some (.int .i64 cs[k].steps) := by rw [show off + k * 2 + 1 = off + (k * 2 + 1) from by omega, hb.cell (p := ⟨b, off + (k * 2 + 1), none⟩) hbB, hcc (k * 2 + 1) (by omega), Cut_get1 cs k hlt]
      have hbr : b < wr.heap.size := Nat.lt_of_lt_of_le hbB hb.size
      obtain ⟨hs0, hs1⟩ := hco.2
      have hg := ho.lt
      obtain ⟨st, hst⟩ : ∃ st, cs[k].steps = st := ⟨_, rfl⟩
      rw [hst] at c1 hs0 hs1
      obtain ⟨W2, hW2⟩ : ∃ W2, wr.alloc (.cells #[.int .i64 (Z : Int), .int .i64 st] 80) = W2 := ⟨_, rfl⟩
      have b2 : Below wr.heap.size wr W2 := hW2 ▸ (Below.refl _ _).alloc (Nat.le_refl _) _
      have OC : Own W2 wr.heap.size 80 [.int .i64 (Z : Int), .int .i64 st] := hW2 ▸ Own.new wr _ _
      have x0 : W2.cell? ⟨wr.heap.size, 0, none⟩ = some (.int .i64 (Z : Int)) := OC.cell 0
      have x1 : W2.cell? ⟨wr.heap.size, 1, none⟩ = some (.int .i64 st) := OC.cell 1
      have xl := OC.lt
      have ho2 := ho.below b2 ho.lt
      have hl8 : Z < (sumsK cs k).length := by rw [sumsK_len]; exact hZ8
      obtain ⟨old, hold⟩ : ∃ old, (sumsK cs k)[Z]'hl8 = old := ⟨_, rfl⟩
      have hold2 : (sumsK cs k)[Z]? = some old := by rw [List.getElem?_eq_getElem hl8, hold]
      have hob := sumsK_bd HALL.out k (by omega) old (by rw [← hold]; exact List.getElem_mem hl8)
      have d0 : W2.cell? ⟨w.heap.size, Z, none⟩ = some (.int .i64 old) := by rw [ho2.cell, putI_get _ Z hl8, hold]
      have f0 := ho2.free Z
      have hg2 := ho2.lt
      have hne : ¬ wr.heap.size = w.heap.size := by omega
      have hne2 : ¬ w.heap.size = wr.heap.size := by omega
      have HS0 := Lib.hid (sums_set hlt hZ hZ8 ho2 hold2)
      have HS1 : Hid (Own (W2.setCell ⟨w.heap.size, Z, none⟩ (.int .i64 (old + st))) w.heap.size 2 ((sumsK cs (k + 1)).flatMap putI)) := Lib.hid (by rw [← hst]; exact HS0.out)
      have HB1 := Lib.hid ((Below.setCell (hb.trans (b2.mono hb.size)) (Nat.le_refl w.heap.size) (.int .i64 (old + st)) : Below w.heap.size w (W2.setCell ⟨w.heap.size, Z, none⟩ _)))
      have hZI : (Z : Int) < 8 := by omega
      have hZ0 : (0 : Int) ≤ (Z : Int) := by omega
      clear hcc hsome ho hb hold hold2 hco hZ q2 hL HS0 ho2 OC b2 hst
      go_wp2_with fail
      go_region
      go_wp2_with fail
      go_roundw
      case rel => exact ⟨k + 1, by omega, by go_num, HS1.out, HB1.out.drew⟩
      case measure => simp [intOf]; omega
    · obtain rfl : k = cs.length := by omega
      clear hb ho
      go_wp2_with fail
      go_ret
      exact ⟨w.heap.size, rfl, Nat.le_refl _, HO.out, HB.out⟩
set_option maxHeartbeats 1000000 in
theorem spec_l09Fits (w : World) (v : Value) (s : List Int) (h : Rd w.heap.size w v 1 s.length (s.flatMap putI)) (hn : s.length ≤ 1048576) :
    Calls Tryz.prog 101 #[v] w fun e w' => e = .returned (.bool (fitsB s)) ∧ w = w' := by
  obtain ⟨hL, ao, cap, rfl, hcap, hmax, hnil, hsome⟩ := h
  go_enter Tryz.func101, Tryz.ntmps101
  go_wp2
  go_loop [3] (fun i => ∃ (k : Nat), k ≤ s.length ∧ i = .int .i64 k ∧ fitsB (s.take k) = true) (fun i => s.length - (intOf i).toNat)
  case atStart => exact ⟨0, Nat.zero_le _, rfl, rfl⟩
  case round =>
    obtain ⟨k, hk, rfl, hall⟩ := hrel
    have Hall := Lib.hid hall; clear hall
    by_cases hlt : k < s.length
    · obtain ⟨b, off, rfl, hbB, hc⟩ := hsome (by omega)
      have c0 : w.cell? ⟨b, off + k, none⟩ = some (.int .i64 s[k]) := by rw [hc k (by omega), putI_get s k hlt]
      clear hc hsome hnil
      by_cases hx : 20 < s[k]
      · have e := Lib.hid (fits_no hlt hx)
        have t1 : decide (20 < s[k]) = true := decide_eq_true hx
        clear hx
        generalize s[k] = x at *
        go_wp2_with fail
        go_ret
        exact ⟨by rw [e.out]; rfl, rfl⟩
      · have e := Lib.hid (fits_take hlt Hall.out (by omega))
        have t1 : decide (20 < s[k]) = false := decide_eq_false hx
        clear hx
        generalize s[k] = x at *
        go_wp2_with fail
        go_round
        case rel => exact ⟨k + 1, by omega, by go_num, e.out⟩
        case measure => simp [intOf]; omega
    · obtain rfl : k = s.length := by omega
      have e : Hid (fitsB s = true) := Lib.hid (by have := Hall.out; rwa [List.take_of_length_le (Nat.le_refl _)] at this)
      clear hsome hnil
      go_wp2_with fail
      go_ret
      exact ⟨by rw [e.out]; rfl, rfl⟩
end Go.Proofs.YtcjekailcljaaaaGreat
namespace Go.Proofs.YtcjekailcljaaaaGreat
open Go.ChangeShapes Go.WideShapes Go.ChangeAt Go.RowKit Go.Deep Go.Joins
set_option linter.unusedVariables false
set_option maxRecDepth 100000
set_option linter.unusedSimpArgs false
/-- 'append(s, x...)' of a slice that can be read -/
theorem app_sl {P : Program} {ops : Array Oper} {rest : List Oper} {o : Oper} {a : Act} {Q : Exit → Act → World → Prop} (hgd : o.guard = none) (s x : Operand) (T E : TypeId) (i : TypeInfo) (z : Value) (sz bytes : Nat)
    (hT : P.underlying T = some (.slice E)) (hi : P.info? E = some i) (hz : i.zero = some z) (h1 : i.size = sz) (h2 : i.bytes = bytes) (hzs : z.cells.size = sz) (hsz : 0 < sz)
    (ho : o.op = .call { callee := .builtin .append, args := #[s, x], argTypes := #[T, T] }) (w : World) (base : Nat) (v : Value) (n : Nat) (L : List Value) (hs : a.eval s = v) (hown : w.ownsRow base E sz v n L)
    (xv : Value) (m : Nat) (cs : List Value) (hx : a.eval x = xv) (hr : Rd w.heap.size w xv sz m cs) (hone : ∀ u ∈ cs, u.oneCell' = true) (hn : n + m ≤ 2097152) (hby : bytes ≤ 64) (hbase : base ≤ w.heap.size)
    (h : ∀ ao cap w', w'.ownsRow base E sz (.slice ao (n + m) cap) (n + m) (L ++ cs) → w.grownBy w' v.ownBlock → (∀ W, Below base W w → Below base W w') → wpList P ops Q rest (a.put o.dst (.slice ao (n + m) cap)) w') :
    wpList P ops Q (o :: rest) a w := by
  have hb : (n + m) * bytes ≤ 140737488355328 := by
    have := Nat.mul_le_mul hn hby
    omega
  have fin : ∀ v' w', w'.ownsRow base E sz v' (n + m) (L ++ cs) → w.grownBy w' v.ownBlock → wpList P ops Q rest (a.put o.dst v') w' := fun v' w' hown' hg => by
    obtain ⟨ao, cap, rfl⟩ := (own_rd hown').form
    exact h ao cap w' hown' hg fun W hW => grown_below hW hown hbase hg
  obtain ⟨hl, ao, cap, rfl, hc, hmx, hnil, hsome⟩ := hr
  cases ao with
  | none =>
    obtain ⟨rfl, rfl⟩ := hnil rfl
    have e : cs = [] := List.eq_nil_of_length_eq_zero (by simpa using hl)
    subst e
    refine wpList_append_own_none hgd s x T ho base E i sz hT hi v n L hs hown hx ?_
    exact fin v w (by simpa using hown) (World.grownBy.refl w _)
  | some p =>
    refine wpList_append_own w hgd s x T ho base E i z sz bytes hT hi hz h1 h2 hzs hsz v n L hs hown p m cap cs hx hl ?_ hone (by unfold maxLen; omega) hb hbase (fun v' w' a b _ => fin v' w' a b)
    intro j u hj
    have hj' := (List.getElem?_eq_some_iff.1 hj).1
    have hm : 0 < m := by
      rcases Nat.eq_zero_or_pos m with h0 | h0
      · have h00 : cs.length = 0 := by rw [hl, h0, Nat.zero_mul]
        omega
      · exact h0
    obtain ⟨b, off, e, _, hcell⟩ := hsome hm
    cases e
    have hadd : (⟨b, off, none⟩ : Addr).add j = ⟨b, off + j, none⟩ := by unfold Addr.add; split <;> simp_all
    rw [hadd, hcell j (by rw [← hl]; exact hj'), hj]
/-- what is owned and lies apart from the slice that an append may have written -/
theorem own_apart {w w' : World} {base base' : Nat} {E E' : TypeId} {s s' n n' : Nat} {v v' : Value} {L L' : List Value} (h : w.ownsRow base E s v n L) (k : w.ownsRow base' E' s' v' n' L') (hlt : ∀ g, v.ownBlock = some g → g < base') (hg : w.grownBy w' v'.ownBlock) : w'.ownsRow base E s v n L := by
  refine h.kept hg ?_
  cases e : v.ownBlock with
  | none => exact .inl rfl
  | some g =>
    right
    intro e2
    have h1 := hlt g e
    have h2 := (k.lt g e2.symm).1
    omega
/-- a slice's first j elements -/
theorem Rd.takeS {B : Nat} {w : World} {ao : Option Addr} {n cap s j : Nat} {L : List Value} (h : Rd B w (.slice ao n cap) s n L) (hj : j ≤ n) : Rd B w (.slice ao j cap) s j (L.take (j * s)) := by
  obtain ⟨hL, ao', cap', e, hcap, hmax, hnil, hsome⟩ := h
  obtain ⟨rfl, rfl⟩ : ao = ao' ∧ cap = cap' := by cases e; exact ⟨rfl, rfl⟩
  have hm : j * s ≤ n * s := Nat.mul_le_mul_right s hj
  refine ⟨by rw [List.length_take]; omega, ao, cap, rfl, by omega, hmax, fun h0 => ⟨by have := (hnil h0).1; omega, (hnil h0).2⟩, fun h0 => ?_⟩
  obtain ⟨b, off, e1, hb, hc⟩ := hsome (by omega)
  exact ⟨b, off, e1, hb, fun i hi => by rw [hc i (by omega), List.getElem?_take_of_lt hi]⟩
/-- a slice's elements from the jth on -/
theorem Rd.dropS {B : Nat} {w : World} {b off n cap s j : Nat} {L : List Value} (h : Rd B w (.slice (some ⟨b, off, none⟩) n cap) s n L) (hj : j ≤ n) : Rd B w (.slice (some ⟨b, off + j * s, none⟩) (n - j) (cap - j)) s (n - j) (L.drop (j * s)) := by
  obtain ⟨hL, ao', cap', e, hcap, hmax, hnil, hsome⟩ := h
  obtain ⟨rfl, rfl⟩ : some ⟨b, off, none⟩ = ao' ∧ cap = cap' := by cases e; exact ⟨rfl, rfl⟩
  have hm : j * s ≤ n * s := Nat.mul_le_mul_right s hj
  refine ⟨by rw [List.length_drop, hL, Nat.sub_mul], _, _, rfl, by omega, by omega, (fun h0 => by cases h0), fun h0 => ?_⟩
  obtain ⟨b', off', e1, hb, hc⟩ := hsome (by omega)
  cases e1
  refine ⟨b, off + j * s, rfl, hb, fun i hi => ?_⟩
  rw [Nat.sub_mul] at hi
  rw [Nat.add_assoc, hc (j * s + i) (by omega), List.getElem?_drop]
theorem own_form {w : World} {base : Nat} {E : TypeId} {s n : Nat} {v : Value} {L : List Value} (h : w.ownsRow base E s v n L) : (v = .slice none 0 0 ∧ n = 0) ∨ ∃ g cap, v = .slice (some ⟨g, 0, none⟩) n cap := by
  obtain ⟨h1, h2⟩ := h
  rcases h2 with ⟨rfl, rfl⟩ | ⟨g, cap, cur, rfl, rest⟩
  · exact .inl ⟨rfl, rfl⟩
  · exact .inr ⟨g, cap, rfl⟩
/-- 'append([]T{}, x...)' -/
theorem app_slE {P : Program} {ops : Array Oper} {rest : List Oper} {o : Oper} {a : Act} {Q : Exit → Act → World → Prop} (hgd : o.guard = none) (s x : Operand) (T E : TypeId) (i : TypeInfo) (z : Value) (sz bytes : Nat)
    (hT : P.underlying T = some (.slice E)) (hi : P.info? E = some i) (hz : i.zero = some z) (h1 : i.size = sz) (h2 : i.bytes = bytes) (hzs : z.cells.size = sz) (hsz : 0 < sz)
    (ho : o.op = .call { callee := .builtin .append, args := #[s, x], argTypes := #[T, T] }) (w : World) (hs : a.eval s = .slice (some ⟨w.heap.size, 0, none⟩) 0 0)
    (xv : Value) (m : Nat) (cs : List Value) (hx : a.eval x = xv) (hr : Rd w.heap.size w xv sz m cs) (hone : ∀ u ∈ cs, u.oneCell' = true) (hn : m ≤ 2097152) (hby : bytes ≤ 64)
    (h : ∀ ao cap w', w'.ownsRow w.heap.size E sz (.slice ao m cap) m cs → Below w.heap.size w w' → wpList P ops Q rest (a.put o.dst (.slice ao m cap)) w') :
    wpList P ops Q (o :: rest) a (w.alloc (.cells #[] E)) := by
  have b0 : Below w.heap.size w (w.alloc (.cells #[] E)) := (Below.refl _ w).alloc (Nat.le_refl _) _
  refine app_sl hgd s x T E i z sz bytes hT hi hz h1 h2 hzs hsz ho _ w.heap.size _ 0 [] hs (own_empty w w.heap.size E sz (Nat.le_refl _)) xv m cs hx (hr.up b0) hone (by omega) hby b0.size ?_
  intro ao cap w' hown _ hB
  rw [Nat.zero_add, List.nil_append] at hown
  rw [Nat.zero_add]
  exact h ao cap w' hown (hB w b0)
theorem Rd.takeX {B : Nat} {w : World} {ao : Option Addr} {n cap s j n' : Nat} {L : List Value} (h : Rd B w (.slice ao n cap) s n L) (hj : j ≤ n) (e : n' = j) : Rd B w (.slice ao n' cap) s j (L.take (j * s)) := by
  subst e; exact h.takeS hj
theorem Rd.dropX {B : Nat} {w : World} {b off o' n' c' n cap s j : Nat} {L : List Value} (h : Rd B w (.slice (some ⟨b, off, none⟩) n cap) s n L) (hj : j ≤ n) (e1 : o' = off + j * s) (e2 : n' = n - j) (e3 : c' = cap - j) :
    Rd B w (.slice (some ⟨b, o', none⟩) n' c') s (n - j) (L.drop (j * s)) := by
  subst e1; subst e2; subst e3; exact h.dropS hj
/-- .. if none are left -/
theorem Rd.dropZ {B : Nat} {w : World} {v : Value} {b o' n' c' n s j : Nat} {L : List Value} (h : Rd B w v s n L) (hj : j = n) (e2 : n' = 0) (e3 : c' ≤ maxLen) :
    Rd B w (.slice (some ⟨b, o', none⟩) n' c') s (n - j) (L.drop (j * s)) := by
  subst hj; subst e2
  have e : L.drop (j * s) = [] := List.drop_eq_nil_of_le (by rw [h.1]; exact Nat.le_refl _)
  rw [e, Nat.sub_self]
  exact ⟨by simp, _, _, rfl, Nat.zero_le _, e3, (fun h0 => by cases h0), fun h0 => by omega⟩
theorem Rd.dropN {B : Nat} {w : World} {v : Value} {n' c' n s j : Nat} {L : List Value} (h : Rd B w v s n L) (hn : n = 0) (e2 : n' = 0) (e3 : c' = 0) :
    Rd B w (.slice none n' c') s (n - j) (L.drop (j * s)) := by
  subst hn; subst e2; subst e3
  have e : L = [] := List.eq_nil_of_length_eq_zero (by rw [h.1]; simp)
  rw [e, Nat.zero_sub, List.drop_nil]
  exact ⟨by simp, none, 0, rfl, Nat.le_refl _, Nat.zero_le _, fun _ => ⟨rfl, rfl⟩, fun h0 => by omega⟩
/-- .. as the walk spells it -/
theorem Rd.dropI {B : Nat} {w : World} {b off o' o'' n' c' n cap s j : Nat} {L : List Value} [Decidable (cap = j)] (h : Rd B w (.slice (some ⟨b, off, none⟩) n cap) s n L) (hj : j ≤ n) (e1 : o' = off + j * s) (e2 : n' = n - j) (e3 : c' = cap - j) :
    Rd B w (.slice (if cap = j then some ⟨b, o'', none⟩ else some ⟨b, o', none⟩) n' c') s (n - j) (L.drop (j * s)) := by
  split
  · rename_i hc
    have h4 : n ≤ cap ∧ cap ≤ maxLen := by
      obtain ⟨_, ao', cap', e, h1, h2, _⟩ := h
      injection e with q1 q2 q3
      subst q3
      exact ⟨h1, h2⟩
    exact h.dropZ (by omega) (by omega) (by omega)
  · exact h.dropX hj e1 e2 e3
end Go.Proofs.YtcjekailcljaaaaGreat
