/- Contracts and plain facts, joined: StepApp, DevL, RawS. -/
import Derived.Test.YtcjekailcljaaaaGreatRows
import Derived.Test.YtcjekailcljaaaaGreatZFnExactDeviationsAfterJ
import Derived.Test.YtcjekailcljaaaaGreatZFnExactDeviationsAfterQ
import Derived.Test.YtcjekailcljaaaaGreatZFnExactDeviationsAfterR
import Derived.Test.YtcjekailcljaaaaGreatZFnExactDeviationsAfterS
import Derived.Test.YtcjekailcljaaaaGreatZFnExactDeviationsAfterZD
import Derived.Test.YtcjekailcljaaaaGreatZFnExactDeviationsAfterZE
import Derived.Deep.Cut
import Derived.Deep.CutRange
namespace Go.Proofs.YtcjekailcljaaaaGreat
open Go.ChangeShapes Go.WideShapes Go.ChangeAt Go.RowKit Go.Deep Go.Joins
set_option linter.unusedVariables false
set_option maxRecDepth 100000
set_option linter.unusedSimpArgs false
theorem stp_el {P : Program} {o : Oper} {a : Act} {K : Act → World → Prop} {Q : Exit → Act → World → Prop} {w1 : World} (s x : Operand) (T E : TypeId) (i : TypeInfo) (z : Value) (sz bytes : Nat)
    (hT : P.underlying T = some (.slice E)) (hi : P.info? E = some i) (hz : i.zero = some z) (h1 : i.size = sz) (h2 : i.bytes = bytes) (hzs : z.cells.size = sz) (hsz : 0 < sz)
    (ho : o.op = .call { callee := .builtin .append, args := #[s, x], argTypes := #[T, T] }) (w0 : World) (base : Nat) (v : Value) (n : Nat) (L : List Value) (hs : a.eval s = v) (hown : w0.ownsRow base E sz v n L)
    (cs : List Value) (hcs : cs.length = sz) (hone : ∀ u ∈ cs, u.oneCell' = true) (hx : a.eval x = .slice (some ⟨w0.heap.size, 0, none⟩) 1 1) (hn : n + 1 ≤ 2097152) (hby : bytes ≤ 64) (hbase : base ≤ w0.heap.size) (hw : w1 = w0.alloc (.cells cs.toArray E))
    (h : ∀ g cap w', w'.ownsRow base E sz (.slice (some ⟨g, 0, none⟩) (n + 1) cap) (n + 1) (L ++ cs) → (∀ W, Below base W w0 → Below base W w') → (∀ b E' L', Own w0 b E' L' → (∀ g', v.ownBlock = some g' → g' ≠ b) → Own w' b E' L') → K (a.put o.dst (.slice (some ⟨g, 0, none⟩) (n + 1) cap)) w') :
    Oper.wp P o a w1 K Q := by
  subst hw
  have hb : (n + 1) * bytes ≤ 140737488355328 := by
    have := Nat.mul_le_mul hn hby
    omega
  refine wp_append_lies _ s x T ho base E i z sz bytes hT hi hz h1 h2 hzs hsz v n L hs (hown.alloc _) ⟨w0.heap.size, 0, none⟩ 1 1 cs hx (by omega) (World.news_of_block (Own.new w0 E cs)) hone (by omega) (by unfold maxLen; omega) hb (by simp; omega) _ rfl ?_
  intro g cap w' hown' hgrow _ _
  refine h g cap w' hown' (fun W hW => ?_) (fun b E' L' hO hne => ?_)
  · exact grown_below (hW.alloc hbase _) (hown.alloc _) (by simp; omega) hgrow
  · have hO2 : Own (w0.alloc (.cells cs.toArray E)) b E' L' := hO.alloc _
    exact (hgrow.block b hO2.lt (fun e => hne b e.symm rfl)).trans hO2
end Go.Proofs.YtcjekailcljaaaaGreat
namespace Go.Proofs.YtcjekailcljaaaaGreat
open Go.ChangeShapes Go.WideShapes Go.ChangeAt Go.RowKit Go.Deep Go.Joins
set_option linter.unusedVariables false
set_option maxRecDepth 100000
set_option linter.unusedSimpArgs false
def devZ (want raw : List Int) : List Int := List.zipWith centI want raw
theorem list5 {xs : List Int} (h : xs.length = 5) : ∃ a b c d e, xs = [a, b, c, d, e] := by
  match xs, h with
  | [a, b, c, d, e], _ => exact ⟨a, b, c, d, e, rfl⟩
theorem devZ_len {want raw : List Int} (h1 : want.length = 5) (h2 : raw.length = 5) : (devZ want raw).length = 5 := by unfold devZ; rw [List.length_zipWith, h1, h2]; rfl
theorem devZ_take {want raw : List Int} {k : Nat} (h1 : k < want.length) (h2 : k < raw.length) : (devZ want raw).take (k + 1) = (devZ want raw).take k ++ [centI want[k] raw[k]] := by
  have h : k < (devZ want raw).length := by unfold devZ; rw [List.length_zipWith]; omega
  rw [List.take_succ_eq_append_getElem h]
  congr 2
  simp [devZ]
end Go.Proofs.YtcjekailcljaaaaGreat
namespace Go.Proofs.YtcjekailcljaaaaGreat
open Go.ChangeShapes Go.WideShapes Go.ChangeAt Go.RowKit Go.Deep Go.Joins
set_option linter.unusedVariables false
set_option maxRecDepth 100000
set_option linter.unusedSimpArgs false
theorem int_one (v : Int) : ∀ u ∈ [Value.int .i64 v], u.oneCell' = true := by
  intro u hu; rw [List.mem_singleton.1 hu]; rfl
set_option maxHeartbeats 8000000 in
theorem spec_l08Walls (w : World) (p : Nat) (x : Profile) (lo : Option Addr) (lc : Nat) (zo : Option Addr) (zc : Nat) (zs : List Int) (hp : ProfAt w p x lo lc) (hR : RdR w lo lc x.rings) (hv : ∀ r ∈ x.rings, ringB r = true) (h1 : 1 ≤ x.rings.length) (h32 : x.rings.length ≤ 32)
    (hz : Rd w.heap.size w (.slice zo zs.length zc) 1 zs.length (zs.flatMap putI)) (hzb : zonesB x.rings.length zs = true) :
    Calls Tryz.prog 67 #[.pointer (some ⟨p, 0, none⟩), .slice zo zs.length zc] w fun e w' => ∃ r, e = .returned r ∧ w'.ownsRow w.heap.size 2 1 r zs.length ((wallsZ x.rings zs).flatMap putI) ∧ Below w.heap.size w w' := by
  obtain ⟨i0, hi, hz0, hz1, hz2⟩ := info_parts info_i64
  have HP := Lib.hid hp
  have HZ := Lib.hid hz
  have HV := Lib.hid hv
  have HRR := Lib.hid hR
  have HZB := Lib.hid hzb
  have hzl := (zonesB_parts hzb).1
  have hwl := wallsZ_len x.rings zs
  have HWL := Lib.hid hwl
  obtain ⟨n, hn⟩ : ∃ n, x.rings.length = n := ⟨_, rfl⟩
  have HN := Lib.hid hn
  have hpl := hp.2.2
  have hn32 : n ≤ 32 := by omega
  have hn1 : 1 ≤ n := by omega
  unfold RdR at HRR
  unfold ProfAt at HP
  rw [hn] at HZB HP HRR
  generalize x.rings = rs at *
  have O1 : Hid ((w.alloc (.cells #[] 2)).ownsRow w.heap.size 2 1 (.slice (some ⟨w.heap.size, 0, none⟩) 0 0) 0 []) := Lib.hid (own_empty w w.heap.size _ 1 (Nat.le_refl _))
  have B1 : Hid (Below w.heap.size w (w.alloc (.cells #[] 2))) := Lib.hid ((Below.refl _ _).alloc (Nat.le_refl _) _)
  clear hp hR hv hz hzb hn h1 h32 hwl
  go_enter Tryz.func67, Tryz.ntmps67
  go_wp2_with fail
  go_loopw [5, 6] (fun r i wr => ∃ (z : Nat), z ≤ zs.length ∧ i = .int .i64 z ∧ wr.ownsRow w.heap.size 2 1 r z (((wallsZ rs zs).take z).flatMap putI) ∧ Below w.heap.size w wr) (fun _ i _ => zs.length - (intOf i).toNat)
  case atStart => exact ⟨0, Nat.zero_le _, rfl, O1.out, B1.out⟩
  case round =>
    clear O1 B1
    obtain ⟨z, hz, rfl, ho, hb⟩ := hrel
    have OR := Lib.hid ho
    have BR := Lib.hid hb
    obtain ⟨ro, rc, er⟩ := (own_rd ho).form
    subst er
    by_cases hlt : z < zs.length
    · have hzf := zone_facts (zs := zs) (n := n) HZB.out hlt
      obtain ⟨f1, f2, f3, f4, _⟩ := hzf
      obtain ⟨zb, zoff, rfl, hzbl, cz⟩ := Rd.at (HZ.out.up hb) z hlt
      rw [f1] at cz
      have hcn : Hid (∀ (h : z + 1 < zs.length), wr.cell? ⟨zb, zoff + (z + 1), none⟩ = some (.int .i64 (bndZ zs n (z + 1) : Int))) := Lib.hid (fun h => by
        obtain ⟨zb', zoff', e', _, cz'⟩ := Rd.at (HZ.out.up hb) (z + 1) h
        injection e' with e'
        injection e' with e1 e2 e3
        subst e1 e2
        rw [cz', ← zEnd_next (n := n) h, f4])
      have hel : Hid (¬ z + 1 < zs.length → bndZ zs n (z + 1) = n) := Lib.hid (fun h => bndZ_end h)
      have EW : Hid (wallZ rs zs z = divR (sumW rs (bndZ zs n z) (bndZ zs n (z + 1) - bndZ zs n z)) ((bndZ zs n (z + 1) - bndZ zs n z : Nat) : Int)) := Lib.hid (by unfold wallZ; rw [HN.out])
      obtain ⟨F, hF⟩ : ∃ F, bndZ zs n z = F := ⟨_, rfl⟩
      obtain ⟨E, hE⟩ : ∃ E, bndZ zs n (z + 1) = E := ⟨_, rfl⟩
      rw [hF] at cz f2 EW
      rw [hE] at f2 f3 hcn hel EW
      have p1 := (hb.cell (p := ⟨p, 1, none⟩) hpl).trans HP.out.2.1
      have plr : p < wr.heap.size := Nat.lt_of_lt_of_le hpl hb.size
      have hwz : w.heap.size ≤ wr.heap.size := hb.size
      have HRr := Lib.hid (HRR.out.up hb)
      have PL := Lib.hid p1
      have CZ := Lib.hid cz
      obtain ⟨wq, rfl⟩ : ∃ wq : World, wq = wr := ⟨_, rfl⟩
      clear ho hb f1 f4 hF hE
      go_upto_if 26 with fail
      go_cut [7] from 11 to 70 (fun e wx => e = .int .i64 (E : Int) ∧ wq = wx)
      case first =>
        by_cases hz1' : z + 1 < zs.length
        · have c2 := hcn.out hz1'
          have t1 : decide ((z : Int) + 1 < (zs.length : Int)) = true := decide_eq_true (by omega)
          have t2 : decide (z + 1 < zs.length) = true := decide_eq_true hz1'
          have t3 : (z : Int) + 1 < (zs.length : Int) := by omega
          go_wp2_with fail
          go_meet
          case rel => exact ⟨rfl, rfl⟩
        · have t1 : decide ((z : Int) + 1 < (zs.length : Int)) = false := decide_eq_false (by omega)
          have t2 : decide (z + 1 < zs.length) = false := decide_eq_false hz1'
          have t3 : (zs.length : Int) ≤ (z : Int) + 1 := by omega
          have hnE : E = n := hel.out hz1'
          subst hnE
          go_wp2_with fail
          go_meet
          case rel => exact ⟨rfl, rfl⟩
      case rest =>
        obtain ⟨rfl, hw⟩ := hcut
        subst hw
        have cz := CZ.out
        clear hcn hel
        go_wp2_with fail
        go_loopw [8, 9] (fun s i wr => ∃ (k : Nat), F ≤ k ∧ k ≤ E ∧ i = .int .i64 k ∧ s = .int .i64 (sumW rs F (k - F)) ∧ Below wq.heap.size wq wr) (fun _ i _ => E - (intOf i).toNat)
        case atStart => exact ⟨F, Nat.le_refl _, Nat.le_of_lt f2, rfl, by rw [Nat.sub_self]; rfl, Below.refl _ _⟩
        case round =>
          obtain ⟨k, hFk, hkE, rfl, rfl, hb⟩ := hrel
          have HB := Lib.hid hb
          have p1 := (hb.cell (p := ⟨p, 1, none⟩) plr).trans PL.out
          have pl2 : p < wr.heap.size := Nat.lt_of_lt_of_le plr hb.size
          by_cases hke : k < E
          · have tk : decide (k < E) = true := decide_eq_true hke
            have hke1 : k + 1 ≤ E := hke
            have hkn : k < n := by omega
            have hkr : k < rs.length := by rw [HN.out]; exact hkn
            have hrv := ringB_nums (HV.out rs[k] (List.getElem_mem hkr))
            have HS := Lib.hid (show sumW rs F (k + 1 - F) = sumW rs F (k - F) + (rs[k].outer - rs[k].inner) from by
              rw [show k + 1 - F = (k - F) + 1 by omega, sumW_succ (by omega)]
              have e : F + (k - F) = k := by omega
              simp only [e]; rfl)
            have hsb := sumW_bd HV.out F (k - F) (by omega)
            obtain ⟨_, ro2, rc2, ee, _, _, _, hsome⟩ := HRr.out
            injection ee with q1 q2 q3
            subst q1 q3
            obtain ⟨b, off, rfl, hbB, hc⟩ := hsome (by omega)
            have c0 : wr.cell? ⟨b, off + k * 3, none⟩ = some (.int .i64 rs[k].outer) := by rw [show off + k * 3 = off + (k * 3 + 0) from by omega, hb.cell (p := ⟨b, off + (k * 3 + 0), none⟩) hbB, hc (k * 3 + 0) (by omega), Ring_get0 rs k hkr]
            have c1 : wr.cell? ⟨b, off + k * 3 + 1, none⟩ = some (.int .i64 rs[k].inner) := by rw [show off + k * 3 + 1 = off + (k * 3 + 1) from by omega, hb.cell (p := ⟨b, off + (k * 3 + 1), none⟩) hbB, hc (k * 3 + 1) (by omega), Ring_get1 rs k hkr]
            have hbr : b < wr.heap.size := Nat.lt_of_lt_of_le hbB hb.size
            have hkI : (k : Int) < (n : Int) := by omega
            have hk0 : (0 : Int) ≤ (k : Int) := by omega
            have hkF32 : k - F ≤ 32 := by omega
            generalize sumW rs F (k - F) = S at *
            generalize rs[k].outer = oo at *
            generalize rs[k].inner = ii at *
            clear hc hsome hb hke q2
            go_wp2_with fail
            refine wp_region_above (by kernel_rfl) (by kernel_rfl) ?_
            repeat (go_big_quiet_step ((fail)))
            refine wpQuiet_nil ?_
            intro w1 b1
            have HB1 := Lib.hid (HB.out.trans (b1.mono HB.out.size)); clear b1
            go_wp2_with fail
            go_roundw
            case rel => exact ⟨k + 1, by omega, by omega, by go_num, by rw [HS.out], HB1.out⟩
            case measure => simp [intOf]; omega
          · obtain rfl : k = E := by omega
            have tk : decide (k < k) = false := decide_eq_false (by omega)
            have cz2 : wr.cell? ⟨zb, zoff + z, none⟩ = some (.int .i64 (F : Int)) := (hb.cell (p := ⟨zb, zoff + z, none⟩) hzbl).trans CZ.out
            have hzb2 : zb < wr.heap.size := Nat.lt_of_lt_of_le hzbl hb.size
            have hsb := sumW_bd HV.out F (k - F) (by rw [HN.out]; omega)
            have ec : ((k - F : Nat) : Int) = (k : Int) - F := by omega
            rw [ec] at EW
            have hdv := Lib.hid (spec_divZ (sumW rs F (k - F)) ((k : Int) - F) wr (by omega) (by omega) (by omega) (by omega))
            obtain ⟨V, hV⟩ : ∃ V, divR (sumW rs F (k - F)) ((k : Int) - F) = V := ⟨_, rfl⟩
            rw [hV] at hdv EW
            have HSN : Hid (((wallsZ rs zs).take (z + 1)).flatMap putI = ((wallsZ rs zs).take z).flatMap putI ++ [.int .i64 V]) := Lib.hid (by
              rw [set_snoc putI (wallsZ rs zs) z (by rw [HWL.out]; exact hlt), wallsZ_at, EW.out]; rfl)
            have ORr := Lib.hid (own_below OR.out hb (Nat.le_refl _))
            have hwz2 : w.heap.size ≤ wr.heap.size := Nat.le_trans hwz hb.size
            have BRr := Lib.hid (BR.out.trans (hb.mono hwz))
            have hsub : 0 < (k : Int) - F := by omega
            generalize sumW rs F (k - F) = S at *
            clear hb ec hV p1 pl2 HB OR BR EW
            go_wp2_with fail
            refine hdv.out.mono ?_; rintro e1 w4 ⟨rfl, rfl⟩
            go_wp2_with (at_builtin; refine app_el rfl _ _ 22 2 i0 (.int .i64 0) 1 8 Tryz.underlying22 hi hz0 hz1 hz2 (by rfl) (by decide) rfl wr w.heap.size _ z (((wallsZ rs zs).take z).flatMap putI) (by rfl) ORr.out [.int .i64 V] rfl (int_one _) (by rfl) (by omega) (by decide) hwz2 ?_; intro g5 gc5 w5 hown5 hB5 hz5; have HB5 := Lib.hid (hB5 wr (Below.refl _ _)); have HO5 := Lib.hid hown5; clear hown5 hB5)
            go_roundw
            case rel => exact ⟨z + 1, by omega, by go_num, by rw [HSN.out]; exact HO5.out, BRr.out.trans HB5.out⟩
            case measure => simp [intOf]; omega
    · obtain rfl : z = zs.length := by omega
      have et : Hid ((wallsZ rs zs).take zs.length = wallsZ rs zs) := Lib.hid (List.take_of_length_le (by rw [HWL.out]; exact Nat.le_refl _))
      rw [et.out] at OR
      clear ho hb
      go_wp2_with fail
      go_ret
      exact ⟨_, rfl, OR.out, BR.out⟩
end Go.Proofs.YtcjekailcljaaaaGreat
