/- ReadSound: the program. -/
import Derived.Test.YtklgkbiobggbiaaDoorRows
import Derived.Test.YtklgkbiobggbiaaDoorReadSo
namespace Go.Proofs.YtklgkbiobggbiaaDoor
open Go.ChangeShapes Go.WideShapes Go.ChangeAt Go.RowKit Go.Deep Go.Joins
set_option linter.unusedVariables false
set_option maxRecDepth 100000
set_option linter.unusedSimpArgs false
set_option maxHeartbeats 2000000 in
theorem impl_areFreqN (w : World) (v : Value) (zs : List Int) (h : Rd w.heap.size w v 1 zs.length (zs.flatMap putI)) (hn : zs.length ≤ 64) (hb : zs.all hzB = false) :
    Calls Tryd.prog 118 #[v] w fun e w' => e = .returned (.bool false) ∧ Below w.heap.size w w' := by
  obtain ⟨hL, ao, cap, rfl, hcap, hmax, hnil, hsome⟩ := h
  have HB := Lib.hid hb; clear hb
  go_enter Tryd.func118, Tryd.ntmps118
  go_wp2
  go_loopw [7] (fun i wr => ∃ (k : Nat), k ≤ zs.length ∧ i = .int .i64 k ∧ (zs.take k).all hzB = true ∧ Below w.heap.size w wr) (fun i _ => zs.length - (intOf i).toNat)
  case atStart => exact ⟨0, Nat.zero_le _, rfl, rfl, Below.refl _ _⟩
  case round =>
    obtain ⟨k, hk, rfl, hal, hb⟩ := hrel
    have HA := Lib.hid hal; clear hal
    have HBW := Lib.hid hb
    by_cases hlt : k < zs.length
    · obtain ⟨b, off, rfl, hbB, hc⟩ := hsome (by omega)
      have c0 : wr.cell? ⟨b, off + k, none⟩ = some (.int .i64 zs[k]) := by rw [hb.cell (p := ⟨b, off + k, none⟩) hbB, hc k (by omega), putI_get zs k hlt]
      clear hc hsome hnil hb
      cases hz : hzB zs[k] with
      | false =>
        have hin := Lib.hid (show inB zs[k] 10000 20000000 = false from hz)
        go_wp2_with (go_at_call 77; refine (impl_IsFrequency_is _ _ hin.out).mono ?_; rintro e w' ⟨rfl, rfl⟩)
        go_ret
        exact ⟨rfl, HBW.out⟩
      | true =>
        have hin := Lib.hid (show inB zs[k] 10000 20000000 = true from hz)
        have e : Hid ((zs.take (k + 1)).all hzB = true) := Lib.hid (by rw [List.take_succ_eq_append_getElem hlt, List.all_append, HA.out]; simp [hz])
        go_wp2_with (go_at_call 77; refine (impl_IsFrequency_is _ _ hin.out).mono ?_; rintro e w' ⟨rfl, rfl⟩)
        go_roundw
        case rel => exact ⟨k + 1, by omega, by go_num, e.out, HBW.out⟩
        case measure => simp [intOf]; omega
    · exfalso
      have h1 := HA.out
      rw [List.take_of_length_le (by omega), HB.out] at h1
      cases h1
theorem impl_ValidSoundN (w : World) (x : Snd) (hb : [x.a, x.b, x.c, x.d, x.e].all hzB = false) :
    Calls Tryd.prog 89 #[.agg #[.int .i64 x.a, .int .i64 x.b, .int .i64 x.c, .int .i64 x.d, .int .i64 x.e]] w fun r w' => r = .returned (.bool false) ∧ Below w.heap.size w w' := by
  have H := Lib.hid (fun w' => impl_listOf w' x.a x.b x.c x.d x.e)
  have HR := Lib.hid (fun (w' : World) (g : Nat) (o : Own w' g 2 (L5 x.a x.b x.c x.d x.e)) => impl_areFreqN w' _ [x.a, x.b, x.c, x.d, x.e] (rd5 o) (by simp) hb)
  have HB0 := Lib.hid (show Below w.heap.size w (w.alloc (.cells (L5 x.a x.b x.c x.d x.e).toArray 43)) from by (repeat' (first | (with_reducible exact Below.refl _ _) | (with_reducible assumption) | (with_reducible refine below_dn ?_ _) | (with_reducible refine Below.drew ?_) | (with_reducible refine Below.alloc ?_ ?_ _) | (with_reducible refine Below.setCell ?_ ?_ _) | go_size)))
  clear hb
  go_enter Tryd.func89, Tryd.ntmps89
  go_wp2_with fail
  refine (H.out _).mono ?_; rintro r1 w1 ⟨g1, rfl, o1, b1⟩
  have HB1 := Lib.hid (bnext HB0.out b1)
  have HO1 := Lib.hid o1
  clear b1 o1
  go_wp2_with fail
  refine (HR.out _ _ HO1.out).mono ?_; rintro r2 w2 ⟨rfl, b2⟩
  have HB2 := Lib.hid (bnext HB1.out b2)
  clear b2
  go_wp2_with fail
  go_ret
  exact ⟨rfl, HB2.out⟩
theorem impl_ValidSound_is {b : Bool} (w : World) (x : Snd) (hb : sndB x = b) :
    Calls Tryd.prog 89 #[.agg #[.int .i64 x.a, .int .i64 x.b, .int .i64 x.c, .int .i64 x.d, .int .i64 x.e]] w fun r w' => r = .returned (.bool b) ∧ Below w.heap.size w w' := by
  subst hb
  cases ha : [x.a, x.b, x.c, x.d, x.e].all hzB with
  | false =>
    have e : sndB x = false := by unfold sndB; rw [ha]; rfl
    rw [e]
    exact impl_ValidSoundN w x ha
  | true =>
    have e : sndB x = rise5 x.a x.b x.c x.d x.e := by unfold sndB; rw [ha]; rfl
    rw [e]
    exact impl_ValidSound w x.a x.b x.c x.d x.e (fun z hz => inB_true (List.all_eq_true.1 ha z hz))
theorem impl_SoundTextN (w : World) (x : Snd) (hb : sndB x = false) :
    Calls Tryd.prog 90 #[.agg #[.int .i64 x.a, .int .i64 x.b, .int .i64 x.c, .int .i64 x.d, .int .i64 x.e]] w fun r w' => r = .returned (.string ⟨#[]⟩) ∧ Below w.heap.size w w' := by
  have HV := Lib.hid (fun w' => impl_ValidSound_is w' x hb)
  have HB0 := Lib.hid (show Below w.heap.size w (w.alloc (.cells (L5 x.a x.b x.c x.d x.e).toArray 43)) from by (repeat' (first | (with_reducible exact Below.refl _ _) | (with_reducible assumption) | (with_reducible refine below_dn ?_ _) | (with_reducible refine Below.drew ?_) | (with_reducible refine Below.alloc ?_ ?_ _) | (with_reducible refine Below.setCell ?_ ?_ _) | go_size)))
  clear hb
  go_enter Tryd.func90, Tryd.ntmps90
  go_wp2_with fail
  refine (HV.out _).mono ?_; rintro r1 w1 ⟨rfl, b1⟩
  have HB1 := Lib.hid (bnext HB0.out b1); clear b1
  go_wp2_with fail
  go_ret
  exact ⟨rfl, HB1.out⟩
theorem infoSo : (Tryd.prog.info? 9).map (fun i => (i.zero, i.size, i.bytes)) = some (some (.string ByteArray.empty), 1, 16) := by kernel_rfl
theorem sndT_sizes {x : Snd} (hb : sndB x = true) : ∀ y ∈ [x.a, x.b, x.c, x.d, x.e].map hertzT, y.size ≤ 30 := by
  intro y hy
  obtain ⟨f, hf, rfl⟩ := List.mem_map.1 hy
  have h := sndB_bd hb f hf
  have := decT_size20 (f / 1000) (by omega) (by omega)
  have h2 : (pad3 (f % 1000).toNat).size = 3 := rfl
  have h3 : (⟨#[46]⟩ : ByteArray).size = 1 := rfl
  unfold hertzT
  rw [ByteArray.size_append, ByteArray.size_append]
  omega
set_option maxHeartbeats 2000000 in
theorem impl_SoundText (w : World) (x : Snd) (hb : sndB x = true) (hp : Pow10 w) :
    Calls Tryd.prog 90 #[.agg #[.int .i64 x.a, .int .i64 x.b, .int .i64 x.c, .int .i64 x.d, .int .i64 x.e]] w fun r w' => r = .returned (.string (sndT x)) ∧ Below w.heap.size w w' := by
  have HV := Lib.hid (fun w' => impl_ValidSound_is w' x hb)
  have HZ := Lib.hid (sndB_bd hb)
  have Hs := Lib.hid (sndT_sizes hb)
  have HL := Lib.hid (fun w' => impl_listOf w' x.a x.b x.c x.d x.e)
  have HP := Lib.hid hp; clear hp
  have HB0 := Lib.hid (show Below w.heap.size w (w.alloc (.cells (L5 x.a x.b x.c x.d x.e).toArray 43)) from by (repeat' (first | (with_reducible exact Below.refl _ _) | (with_reducible assumption) | (with_reducible refine below_dn ?_ _) | (with_reducible refine Below.drew ?_) | (with_reducible refine Below.alloc ?_ ?_ _) | (with_reducible refine Below.setCell ?_ ?_ _) | go_size)))
  have VB : Hid (Own (w.alloc (.cells #[.int .i64 x.a, .int .i64 x.b, .int .i64 x.c, .int .i64 x.d, .int .i64 x.e] 43)) w.heap.size 43 [.int .i64 x.a, .int .i64 x.b, .int .i64 x.c, .int .i64 x.d, .int .i64 x.e]) := Lib.hid (Own.new w _ _)
  have et : Hid (sndT x = joinT 32 ([x.a, x.b, x.c, x.d, x.e].map hertzT)) := Lib.hid rfl
  have hL5 : L5 x.a x.b x.c x.d x.e = [x.a, x.b, x.c, x.d, x.e].flatMap putI := rfl
  obtain ⟨zs, hzs⟩ : ∃ zs, [x.a, x.b, x.c, x.d, x.e] = zs := ⟨_, rfl⟩
  have hzl : zs.length = 5 := by rw [← hzs]; rfl
  rw [hL5, hzs] at HL
  rw [hzs] at HZ Hs et
  have HZL := Lib.hid hzl
  have HLK : Hid (∀ k, k < 5 → k < zs.length) := Lib.hid (fun k hk => by omega)
  obtain ⟨i0, hi, hz0, hz1, hz2⟩ := info_parts infoSo
  clear hb hL5 hzs hzl
  go_enter Tryd.func90, Tryd.ntmps90
  go_wp2_with fail
  refine (HV.out _).mono ?_; rintro r1 w1 ⟨rfl, b1⟩
  have HB1 := Lib.hid (bnext HB0.out b1)
  have HVB := Lib.hid (VB.out.below b1 VB.out.lt)
  have v0 : w1.cell? ⟨w.heap.size, 0, none⟩ = some (.int .i64 x.a) := HVB.out.cell 0
  have v1 : w1.cell? ⟨w.heap.size, 1, none⟩ = some (.int .i64 x.b) := HVB.out.cell 1
  have v2 : w1.cell? ⟨w.heap.size, 2, none⟩ = some (.int .i64 x.c) := HVB.out.cell 2
  have v3 : w1.cell? ⟨w.heap.size, 3, none⟩ = some (.int .i64 x.d) := HVB.out.cell 3
  have v4 : w1.cell? ⟨w.heap.size, 4, none⟩ = some (.int .i64 x.e) := HVB.out.cell 4
  have vl := HVB.out.lt
  clear b1
  go_wp2_with fail
  refine (HL.out _).mono ?_; rintro r2 w2 ⟨gx, rfl, ox, b2⟩
  have HB2 := Lib.hid (bnext HB1.out b2); clear b2 HB1
  have HX := Lib.hid ox
  have hgx : gx < w2.heap.size := ox.lt
  clear ox
  go_wp2_with fail
  go_loopw [3, 12] (fun r i wr => ∃ (k : Nat), k ≤ 5 ∧ i = .int .i64 k ∧ wr.ownsRow w2.heap.size 9 1 r ((zs.map hertzT).take k).length (((zs.map hertzT).take k).flatMap putStr) ∧ Below w2.heap.size w2 wr) (fun r i _ => 5 - (intOf i).toNat)
  case atStart => exact ⟨0, by omega, rfl, own_nil _ _ _ _, Below.refl _ _⟩
  case round =>
    obtain ⟨k, hk, rfl, hown, hb⟩ := hrel
    have HO := Lib.hid hown; clear hown
    have HB := Lib.hid hb
    have hlk : ((zs.map hertzT).take k).length ≤ 5 := by rw [List.length_take]; omega
    by_cases hlt : k < 5
    · have hkz := HLK.out k hlt
      have c1 : wr.cell? ⟨gx, k, none⟩ = some (.int .i64 zs[k]) := (hb.cell (p := ⟨gx, k, none⟩) hgx).trans ((HX.out.cell k).trans (putI_get zs k hkz))
      have hzk := HZ.out zs[k] (List.getElem_mem hkz)
      have HD := Lib.hid (impl_HertzText zs[k] wr hzk (HP.out.below (bnext HB2.out hb)))
      have hlm : k < (zs.map hertzT).length := by rw [List.length_map]; exact hkz
      have e : Hid ((zs.map hertzT).take (k + 1) = (zs.map hertzT).take k ++ [hertzT zs[k]]) := Lib.hid (by rw [List.take_succ_eq_append_getElem hlm, List.getElem_map])
      have hgr : gx < wr.heap.size := Nat.lt_of_lt_of_le hgx hb.size
      clear hb hlm
      generalize (zs.map hertzT).take k = J at *
      go_wp2_with fail
      refine HD.out.mono ?_; rintro e1 w3 ⟨rfl, b3⟩
      have HB3 := Lib.hid (HB.out.trans (b3.mono HB.out.size))
      have HO3 := Lib.hid (own_below HO.out b3 (Nat.le_refl _))
      have hws3 := HB3.out.size
      clear b3
      go_wp2_with (at_builtin; refine app_el rfl _ _ 35 9 i0 (.string ByteArray.empty) 1 16 Tryd.underlying35 hi hz0 hz1 hz2 rfl (by decide) rfl w3 w2.heap.size _ _ (J.flatMap putStr) (by rfl) HO3.out [.string (hertzT zs[k])] rfl (by intro u hu; simp at hu; subst hu; rfl) (by rfl) (by omega) (by decide) hws3 ?_; intro g gc w4 hown4 hB4 hz; have HB4 := Lib.hid (hB4 w2 HB3.out); have HO4 := Lib.hid hown4; clear hown4 hB4)
      go_roundw
      case rel => exact ⟨k + 1, by omega, by go_num, by rw [e.out, strS_snoc, List.length_append]; exact HO4.out, HB4.out⟩
      case measure => simp [intOf]; omega
    · have em : (zs.map hertzT).take k = zs.map hertzT := List.take_of_length_le (by rw [List.length_map, HZL.out]; omega)
      rw [em] at HO
      have hrd := own_rd HO.out
      have HJ := Lib.hid (impl_join 32 wr _ (zs.map hertzT) hrd (by rw [List.length_map, HZL.out]; omega) (by rw [List.length_map, HZL.out]; omega) 30 (by omega) Hs.out)
      have HBw := Lib.hid (bnext HB2.out hb)
      obtain ⟨jo, jc, ej⟩ := hrd.form
      subst ej
      generalize joinT 32 (zs.map hertzT) = J at *
      generalize zs.map hertzT = Q at *
      clear hb em hrd
      go_wp2_with fail
      refine HJ.out.mono ?_; rintro e1 w3 ⟨rfl, b3⟩
      have HB3 := Lib.hid (bnext HBw.out b3); clear b3
      go_wp2_with fail
      go_ret
      exact ⟨by rw [et.out]; try rfl, HB3.out⟩
set_option maxHeartbeats 4000000 in
theorem impl_ReadSound (s : ByteArray) (w : World) (hs : s.size ≤ 1048576) (hm : MaxL w) (hp : Pow10 w) (he : ErrS w) :
    Calls Tryd.prog 52 #[.string s] w fun e w' => e = .returned (.tuple #[.agg #[.int .i64 (sndV s).a, .int .i64 (sndV s).b, .int .i64 (sndV s).c, .int .i64 (sndV s).d, .int .i64 (sndV s).e], .bool (sndR s).isSome]) ∧ Below w.heap.size w w' := by
  have HM := Lib.hid hm; clear hm
  have HP := Lib.hid hp; clear hp
  have HE := Lib.hid he; clear he
  have HR0 : Hid (Own (w.alloc (.cells #[.int .i64 0, .int .i64 0, .int .i64 0, .int .i64 0, .int .i64 0] 43)) w.heap.size 43 [.int .i64 0, .int .i64 0, .int .i64 0, .int .i64 0, .int .i64 0]) := Lib.hid (Own.new w _ _)
  have HB0 : Hid (Below w.heap.size w (w.alloc (.cells #[.int .i64 0, .int .i64 0, .int .i64 0, .int .i64 0, .int .i64 0] 43))) := Lib.hid ((Below.refl _ _).alloc (Nat.le_refl _) _)
  have H32 := Lib.hid (fun w' (h1 : MaxL w') => impl_Split 32 s w' hs h1)
  have hwz := Lib.hid (fun x (hx : x ∈ partsS 32 s) => partsS_size x hx)
  by_cases h5 : (partsS 32 s).length = 5
  case neg =>
    have e := Lib.hid (sndV_none (sndR_not5 h5))
    have t2 : (((partsS 32 s).length : Int) != 5) = true := bne_iff_ne.2 (by omega)
    clear h5
    generalize partsS 32 s = ws at *
    go_enter Tryd.func52, Tryd.ntmps52
    go_wp2_with fail
    refine (H32.out _ (HM.out.below HB0.out)).mono ?_; rintro e w1 ⟨rfl, o1, b1⟩
    have HR1 := Lib.hid (HR0.out.below b1 HR0.out.lt)
    have HB1 := Lib.hid (bnext HB0.out b1)
    clear o1 b1 HR0 HB0
    have q0 : w1.cell? ⟨w.heap.size, 0, none⟩ = some (.int .i64 0) := HR1.out.cell 0
    have q1 : w1.cell? ⟨w.heap.size, 1, none⟩ = some (.int .i64 0) := HR1.out.cell 1
    have q2 : w1.cell? ⟨w.heap.size, 2, none⟩ = some (.int .i64 0) := HR1.out.cell 2
    have q3 : w1.cell? ⟨w.heap.size, 3, none⟩ = some (.int .i64 0) := HR1.out.cell 3
    have q4 : w1.cell? ⟨w.heap.size, 4, none⟩ = some (.int .i64 0) := HR1.out.cell 4
    have fq0 := HR1.out.free 0
    have fq1 := HR1.out.free 1
    have fq2 := HR1.out.free 2
    have fq3 := HR1.out.free 3
    have fq4 := HR1.out.free 4
    have hltq : w.heap.size < w1.heap.size := HR1.out.lt
    have hneq : ¬ w.heap.size = w1.heap.size := by omega
    go_wp2_with fail
    have hb := HB1.out
    exact bodyPost_ret (v := .tuple #[.agg #[.int .i64 0, .int .i64 0, .int .i64 0, .int .i64 0, .int .i64 0], .bool false]) (by simp [results, Tryd.results52, go_sem, q0, q1, q2, q3, q4, hltq, hneq]) rfl ⟨by rw [e.out.1, e.out.2]; try rfl, by (repeat' (first | (with_reducible exact Below.refl _ _) | (with_reducible assumption) | (with_reducible refine below_dn ?_ _) | (with_reducible refine Below.drew ?_) | (with_reducible refine Below.alloc ?_ ?_ _) | (with_reducible refine Below.setCell ?_ ?_ _) | go_size))⟩
  obtain ⟨ws, hws⟩ : ∃ ws, partsS 32 s = ws := ⟨_, rfl⟩
  have HT := Lib.hid (fun (a b c d e : Int) (h : ws.map hertzV = [a, b, c, d, e]) => L5_facts h hws)
  rw [hws] at h5 H32 hwz
  clear hws
  have H32' : Hid (∀ w' : World, MaxL w' → Calls Tryd.prog 36 #[.string s, .string ⟨#[32]⟩] w' fun e w'' => e = .returned (.slice (some ⟨w'.heap.size, 0, none⟩) 5 5) ∧ Own w'' w'.heap.size 9 (ws.flatMap putStr) ∧ Below w'.heap.size w' w'') := by rw [h5] at H32; exact H32
  have HH := Lib.hid (fun (k : Nat) (hk : k < ws.length) w' h1 h2 h3 => impl_ReadHertz ws[k] w' (Nat.le_trans (hwz.out _ (List.getElem_mem hk)) hs) h1 h2 h3)
  have HL5 := Lib.hid h5
  have HLK : Hid (∀ k, k < 5 → k < ws.length) := Lib.hid (fun k hk => by omega)
  obtain ⟨i0, hi, hz0, hz1, hz2⟩ := info_parts info_i64
  clear hwz H32 h5
  go_enter Tryd.func52, Tryd.ntmps52
  go_wp2_with fail
  refine (H32'.out _ (HM.out.below HB0.out)).mono ?_; rintro e w1 ⟨rfl, ow, b1⟩
  obtain ⟨gx, hgx'⟩ : ∃ gx, (w.alloc (.cells #[.int .i64 0, .int .i64 0, .int .i64 0, .int .i64 0, .int .i64 0] 43)).heap.size = gx := ⟨_, rfl⟩
  rw [hgx'] at ow
  rw [hgx']
  have HW1 : Hid (Own w1 gx 9 (ws.flatMap putStr ++ [])) := Lib.hid (by rw [List.append_nil]; exact ow)
  have hgx1 : gx < w1.heap.size := ow.lt
  have HR1 := Lib.hid (HR0.out.below b1 HR0.out.lt)
  have HB1 := Lib.hid (bnext HB0.out b1)
  clear b1 HR0 HB0 ow hgx'
  go_wp2_with fail
  go_loopw [5, 19] (fun r i wr => ∃ (k : Nat), k ≤ 5 ∧ i = .int .i64 k ∧ wr.ownsRow w1.heap.size 2 1 r k (((ws.map hertzV).take k).flatMap putI) ∧ Below w1.heap.size w1 wr) (fun r i _ => 5 - (intOf i).toNat)
  case atStart => exact ⟨0, by omega, rfl, own_nil _ _ _ _, Below.refl _ _⟩
  case round =>
    obtain ⟨k, hk, rfl, hown, hb⟩ := hrel
    have HO := Lib.hid hown
    have HB := Lib.hid hb
    have hws := hb.size
    obtain ⟨ro, rx, er0⟩ := (own_rd hown).form
    subst er0
    clear hown
    by_cases hlt : k < 5
    · have hkz := HLK.out k hlt
      have c0 : wr.cell? ⟨gx, k, none⟩ = some (.string ws[k]) := (hb.cell (p := ⟨gx, k, none⟩) hgx1).trans (own_str HW1.out hkz)
      have hgr : gx < wr.heap.size := by omega
      have e1 : Hid ((ws.map hertzV).take (k + 1) = (ws.map hertzV).take k ++ [hertzV ws[k]]) := Lib.hid (by rw [List.take_succ_eq_append_getElem (by rw [List.length_map]; exact hkz), List.getElem_map])
      have HHk := Lib.hid (HH.out k hkz wr (HM.out.below (bnext HB1.out hb)) (HP.out.below (bnext HB1.out hb)) (HE.out.below (bnext HB1.out hb)))
      clear hb
      generalize (ws.map hertzV).take k = J at *
      generalize hertzV ws[k] = f at *
      generalize (hertzR ws[k]).isSome = okk at *
      generalize ws[k] = wk at *
      clear hkz
      go_wp2_with fail
      refine HHk.out.mono ?_; rintro e w2 ⟨rfl, b2⟩
      have HB2 := Lib.hid (HB.out.trans (b2.mono hws))
      have HO2 := Lib.hid (own_below HO.out b2 (Nat.le_refl _))
      have hws2 := HB2.out.size
      clear b2 HO
      go_wp2_with (at_builtin; refine app_el rfl _ _ 53 2 i0 (.int .i64 0) 1 8 Tryd.underlying53 hi hz0 hz1 hz2 rfl (by decide) rfl w2 w1.heap.size _ k (J.flatMap putI) (by rfl) HO2.out [.int .i64 f] rfl (by intro u hu; simp at hu; subst hu; rfl) (by rfl) (by omega) (by decide) hws2 ?_; intro g gc w3 hown3 hB3 hz; have HB3 := Lib.hid (hB3 w1 HB2.out); have HO3 := Lib.hid hown3; clear hown3 hB3)
      go_roundw
      case rel => exact ⟨k + 1, by omega, by go_num, by rw [e1.out, int_snocF]; exact HO3.out, HB3.out⟩
      case measure => simp [intOf]; omega
    · obtain rfl : k = 5 := by omega
      obtain ⟨a, b, c, d, z, hm⟩ := five_of (show (ws.map hertzV).length = 5 by rw [List.length_map]; exact HL5.out)
      rw [List.take_of_length_le (by rw [hm]; simp), hm] at HO
      have ht := HT.out a b c d z hm
      have HB2 := Lib.hid (bnext HB1.out hb)
      have HR2 := Lib.hid (HR1.out.below hb HR1.out.lt)
      have HX := Lib.hid (impl_sound wr _ a b c d z (own_rd HO.out))
      clear hb HO HB HR1 HB1 HW1 HT hm
      cases hq : sndB ⟨a, b, c, d, z⟩ with
      | false =>
        have e := Lib.hid (sndV_none (ht.2.1 hq))
        have HV := Lib.hid (fun w' => impl_ValidSound_is w' ⟨a, b, c, d, z⟩ hq)
        clear hq ht
        go_wp2_with fail
        refine HX.out.mono ?_; rintro e w3 ⟨rfl, b3⟩
        have HR3 : Hid (Own (w3.alloc (.cells #[.int .i64 a, .int .i64 b, .int .i64 c, .int .i64 d, .int .i64 z] 43)) w.heap.size 43 [.int .i64 0, .int .i64 0, .int .i64 0, .int .i64 0, .int .i64 0]) := Lib.hid ((HR2.out.below b3 HR2.out.lt).alloc _)
        have HB3 : Hid (Below w.heap.size w (w3.alloc (.cells #[.int .i64 a, .int .i64 b, .int .i64 c, .int .i64 d, .int .i64 z] 43))) := Lib.hid ((bnext HB2.out b3).alloc (bnext HB2.out b3).size _)
        have HX3 : Hid (Own (w3.alloc (.cells #[.int .i64 a, .int .i64 b, .int .i64 c, .int .i64 d, .int .i64 z] 43)) w3.heap.size 43 (L5 a b c d z)) := Lib.hid (Own.new w3 _ (L5 a b c d z))
        clear b3 HR2 HB2 HX
        go_wp2_with fail
        refine (HV.out _).mono ?_; rintro e w4 ⟨rfl, b4⟩
        have HR4 := Lib.hid (HR3.out.below b4 HR3.out.lt)
        have HX4 := Lib.hid (HX3.out.below b4 HX3.out.lt)
        have HB4 := Lib.hid (bnext HB3.out b4)
        clear b4 HR3 HX3 HB3
        have q0 : w4.cell? ⟨w.heap.size, 0, none⟩ = some (.int .i64 0) := HR4.out.cell 0
        have q1 : w4.cell? ⟨w.heap.size, 1, none⟩ = some (.int .i64 0) := HR4.out.cell 1
        have q2 : w4.cell? ⟨w.heap.size, 2, none⟩ = some (.int .i64 0) := HR4.out.cell 2
        have q3 : w4.cell? ⟨w.heap.size, 3, none⟩ = some (.int .i64 0) := HR4.out.cell 3
        have q4 : w4.cell? ⟨w.heap.size, 4, none⟩ = some (.int .i64 0) := HR4.out.cell 4
        have fq0 := HR4.out.free 0
        have fq1 := HR4.out.free 1
        have fq2 := HR4.out.free 2
        have fq3 := HR4.out.free 3
        have fq4 := HR4.out.free 4
        have hltq : w.heap.size < w4.heap.size := HR4.out.lt
        have hneq : ¬ w.heap.size = w4.heap.size := by omega
        go_wp2_with fail
        have hb := HB4.out
        exact bodyPost_ret (v := .tuple #[.agg #[.int .i64 0, .int .i64 0, .int .i64 0, .int .i64 0, .int .i64 0], .bool false]) (by simp [results, Tryd.results52, go_sem, q0, q1, q2, q3, q4, hltq, hneq]) rfl ⟨by rw [e.out.1, e.out.2]; try rfl, by (repeat' (first | (with_reducible exact Below.refl _ _) | (with_reducible assumption) | (with_reducible refine below_dn ?_ _) | (with_reducible refine Below.drew ?_) | (with_reducible refine Below.alloc ?_ ?_ _) | (with_reducible refine Below.setCell ?_ ?_ _) | go_size))⟩
      | true =>
        by_cases hqt : sndT ⟨a, b, c, d, z⟩ = s
        case pos =>
          have e := Lib.hid (sndV_some (ht.1 hq hqt))
          have HV := Lib.hid (fun w' => impl_ValidSound_is w' ⟨a, b, c, d, z⟩ hq)
          have HTX := Lib.hid (fun w' (h1 : Pow10 w') => impl_SoundText w' ⟨a, b, c, d, z⟩ hq h1)
          have tq := text_eq hqt
          obtain ⟨tx, htx⟩ : ∃ tx, sndT ⟨a, b, c, d, z⟩ = tx := ⟨_, rfl⟩
          rw [htx] at HTX tq
          clear hqt htx
          clear hq ht
          go_wp2_with fail
          refine HX.out.mono ?_; rintro e w3 ⟨rfl, b3⟩
          have HR3 : Hid (Own (w3.alloc (.cells #[.int .i64 a, .int .i64 b, .int .i64 c, .int .i64 d, .int .i64 z] 43)) w.heap.size 43 [.int .i64 0, .int .i64 0, .int .i64 0, .int .i64 0, .int .i64 0]) := Lib.hid ((HR2.out.below b3 HR2.out.lt).alloc _)
          have HB3 : Hid (Below w.heap.size w (w3.alloc (.cells #[.int .i64 a, .int .i64 b, .int .i64 c, .int .i64 d, .int .i64 z] 43))) := Lib.hid ((bnext HB2.out b3).alloc (bnext HB2.out b3).size _)
          have HX3 : Hid (Own (w3.alloc (.cells #[.int .i64 a, .int .i64 b, .int .i64 c, .int .i64 d, .int .i64 z] 43)) w3.heap.size 43 (L5 a b c d z)) := Lib.hid (Own.new w3 _ (L5 a b c d z))
          clear b3 HR2 HB2 HX
          go_wp2_with fail
          refine (HV.out _).mono ?_; rintro e w4 ⟨rfl, b4⟩
          have HR4 := Lib.hid (HR3.out.below b4 HR3.out.lt)
          have HX4 := Lib.hid (HX3.out.below b4 HX3.out.lt)
          have HB4 := Lib.hid (bnext HB3.out b4)
          clear b4 HR3 HX3 HB3
          unfold L5 at HX4
          have y0 : w4.cell? ⟨w3.heap.size, 0, none⟩ = some (.int .i64 a) := HX4.out.cell 0
          have y1 : w4.cell? ⟨w3.heap.size, 1, none⟩ = some (.int .i64 b) := HX4.out.cell 1
          have y2 : w4.cell? ⟨w3.heap.size, 2, none⟩ = some (.int .i64 c) := HX4.out.cell 2
          have y3 : w4.cell? ⟨w3.heap.size, 3, none⟩ = some (.int .i64 d) := HX4.out.cell 3
          have y4 : w4.cell? ⟨w3.heap.size, 4, none⟩ = some (.int .i64 z) := HX4.out.cell 4
          have fy0 := HX4.out.free 0
          have fy1 := HX4.out.free 1
          have fy2 := HX4.out.free 2
          have fy3 := HX4.out.free 3
          have fy4 := HX4.out.free 4
          have hlty : w3.heap.size < w4.heap.size := HX4.out.lt
          have hney : ¬ w3.heap.size = w4.heap.size := by omega
          go_wp2_with fail
          refine (HTX.out _ (HP.out.below HB4.out)).mono ?_; rintro e w5 ⟨rfl, b5⟩
          have HR5 := Lib.hid (HR4.out.below b5 HR4.out.lt)
          have HX5 := Lib.hid (HX4.out.below b5 HX4.out.lt)
          have HB5 := Lib.hid (bnext HB4.out b5)
          clear b5 HR4 HX4 HB4 y0 fy0 y1 fy1 y2 fy2 y3 fy3 y4 fy4 hlty hney
          have q0 : w5.cell? ⟨w.heap.size, 0, none⟩ = some (.int .i64 0) := HR5.out.cell 0
          have q1 : w5.cell? ⟨w.heap.size, 1, none⟩ = some (.int .i64 0) := HR5.out.cell 1
          have q2 : w5.cell? ⟨w.heap.size, 2, none⟩ = some (.int .i64 0) := HR5.out.cell 2
          have q3 : w5.cell? ⟨w.heap.size, 3, none⟩ = some (.int .i64 0) := HR5.out.cell 3
          have q4 : w5.cell? ⟨w.heap.size, 4, none⟩ = some (.int .i64 0) := HR5.out.cell 4
          have fq0 := HR5.out.free 0
          have fq1 := HR5.out.free 1
          have fq2 := HR5.out.free 2
          have fq3 := HR5.out.free 3
          have fq4 := HR5.out.free 4
          have hltq : w.heap.size < w5.heap.size := HR5.out.lt
          have hneq : ¬ w.heap.size = w5.heap.size := by omega
          have x0 : w5.cell? ⟨w3.heap.size, 0, none⟩ = some (.int .i64 a) := HX5.out.cell 0
          have x1 : w5.cell? ⟨w3.heap.size, 1, none⟩ = some (.int .i64 b) := HX5.out.cell 1
          have x2 : w5.cell? ⟨w3.heap.size, 2, none⟩ = some (.int .i64 c) := HX5.out.cell 2
          have x3 : w5.cell? ⟨w3.heap.size, 3, none⟩ = some (.int .i64 d) := HX5.out.cell 3
          have x4 : w5.cell? ⟨w3.heap.size, 4, none⟩ = some (.int .i64 z) := HX5.out.cell 4
          have fx0 := HX5.out.free 0
          have fx1 := HX5.out.free 1
          have fx2 := HX5.out.free 2
          have fx3 := HX5.out.free 3
          have fx4 := HX5.out.free 4
          have hltx : w3.heap.size < w5.heap.size := HX5.out.lt
          have hnex : ¬ w3.heap.size = w5.heap.size := by omega
          go_wp2_with fail
          have hb := HB5.out
          exact bodyPost_ret (v := .tuple #[.agg #[.int .i64 a, .int .i64 b, .int .i64 c, .int .i64 d, .int .i64 z], .bool true]) (by simp [results, Tryd.results52, go_sem, q0, q1, q2, q3, q4, hltq, hneq, x0, x1, x2, x3, x4, hltx, hnex]) rfl ⟨by rw [e.out.1, e.out.2]; try rfl, by (repeat' (first | (with_reducible exact Below.refl _ _) | (with_reducible assumption) | (with_reducible refine below_dn ?_ _) | (with_reducible refine Below.drew ?_) | (with_reducible refine Below.alloc ?_ ?_ _) | (with_reducible refine Below.setCell ?_ ?_ _) | go_size))⟩
        case neg =>
          have e := Lib.hid (sndV_none (ht.2.2 hqt))
          have HV := Lib.hid (fun w' => impl_ValidSound_is w' ⟨a, b, c, d, z⟩ hq)
          have HTX := Lib.hid (fun w' (h1 : Pow10 w') => impl_SoundText w' ⟨a, b, c, d, z⟩ hq h1)
          have tq := text_ne hqt
          obtain ⟨tx, htx⟩ : ∃ tx, sndT ⟨a, b, c, d, z⟩ = tx := ⟨_, rfl⟩
          rw [htx] at HTX tq
          clear hqt htx
          clear hq ht
          go_wp2_with fail
          refine HX.out.mono ?_; rintro e w3 ⟨rfl, b3⟩
          have HR3 : Hid (Own (w3.alloc (.cells #[.int .i64 a, .int .i64 b, .int .i64 c, .int .i64 d, .int .i64 z] 43)) w.heap.size 43 [.int .i64 0, .int .i64 0, .int .i64 0, .int .i64 0, .int .i64 0]) := Lib.hid ((HR2.out.below b3 HR2.out.lt).alloc _)
          have HB3 : Hid (Below w.heap.size w (w3.alloc (.cells #[.int .i64 a, .int .i64 b, .int .i64 c, .int .i64 d, .int .i64 z] 43))) := Lib.hid ((bnext HB2.out b3).alloc (bnext HB2.out b3).size _)
          have HX3 : Hid (Own (w3.alloc (.cells #[.int .i64 a, .int .i64 b, .int .i64 c, .int .i64 d, .int .i64 z] 43)) w3.heap.size 43 (L5 a b c d z)) := Lib.hid (Own.new w3 _ (L5 a b c d z))
          clear b3 HR2 HB2 HX
          go_wp2_with fail
          refine (HV.out _).mono ?_; rintro e w4 ⟨rfl, b4⟩
          have HR4 := Lib.hid (HR3.out.below b4 HR3.out.lt)
          have HX4 := Lib.hid (HX3.out.below b4 HX3.out.lt)
          have HB4 := Lib.hid (bnext HB3.out b4)
          clear b4 HR3 HX3 HB3
          unfold L5 at HX4
          have y0 : w4.cell? ⟨w3.heap.size, 0, none⟩ = some (.int .i64 a) := HX4.out.cell 0
          have y1 : w4.cell? ⟨w3.heap.size, 1, none⟩ = some (.int .i64 b) := HX4.out.cell 1
          have y2 : w4.cell? ⟨w3.heap.size, 2, none⟩ = some (.int .i64 c) := HX4.out.cell 2
          have y3 : w4.cell? ⟨w3.heap.size, 3, none⟩ = some (.int .i64 d) := HX4.out.cell 3
          have y4 : w4.cell? ⟨w3.heap.size, 4, none⟩ = some (.int .i64 z) := HX4.out.cell 4
          have fy0 := HX4.out.free 0
          have fy1 := HX4.out.free 1
          have fy2 := HX4.out.free 2
          have fy3 := HX4.out.free 3
          have fy4 := HX4.out.free 4
          have hlty : w3.heap.size < w4.heap.size := HX4.out.lt
          have hney : ¬ w3.heap.size = w4.heap.size := by omega
          go_wp2_with fail
          refine (HTX.out _ (HP.out.below HB4.out)).mono ?_; rintro e w5 ⟨rfl, b5⟩
          have HR5 := Lib.hid (HR4.out.below b5 HR4.out.lt)
          have HX5 := Lib.hid (HX4.out.below b5 HX4.out.lt)
          have HB5 := Lib.hid (bnext HB4.out b5)
          clear b5 HR4 HX4 HB4 y0 fy0 y1 fy1 y2 fy2 y3 fy3 y4 fy4 hlty hney
          have q0 : w5.cell? ⟨w.heap.size, 0, none⟩ = some (.int .i64 0) := HR5.out.cell 0
          have q1 : w5.cell? ⟨w.heap.size, 1, none⟩ = some (.int .i64 0) := HR5.out.cell 1
          have q2 : w5.cell? ⟨w.heap.size, 2, none⟩ = some (.int .i64 0) := HR5.out.cell 2
          have q3 : w5.cell? ⟨w.heap.size, 3, none⟩ = some (.int .i64 0) := HR5.out.cell 3
          have q4 : w5.cell? ⟨w.heap.size, 4, none⟩ = some (.int .i64 0) := HR5.out.cell 4
          have fq0 := HR5.out.free 0
          have fq1 := HR5.out.free 1
          have fq2 := HR5.out.free 2
          have fq3 := HR5.out.free 3
          have fq4 := HR5.out.free 4
          have hltq : w.heap.size < w5.heap.size := HR5.out.lt
          have hneq : ¬ w.heap.size = w5.heap.size := by omega
          go_wp2_with fail
          have hb := HB5.out
          exact bodyPost_ret (v := .tuple #[.agg #[.int .i64 0, .int .i64 0, .int .i64 0, .int .i64 0, .int .i64 0], .bool false]) (by simp [results, Tryd.results52, go_sem, q0, q1, q2, q3, q4, hltq, hneq]) rfl ⟨by rw [e.out.1, e.out.2]; try rfl, by (repeat' (first | (with_reducible exact Below.refl _ _) | (with_reducible assumption) | (with_reducible refine below_dn ?_ _) | (with_reducible refine Below.drew ?_) | (with_reducible refine Below.alloc ?_ ?_ _) | (with_reducible refine Below.setCell ?_ ?_ _) | go_size))⟩
end Go.Proofs.YtklgkbiobggbiaaDoor
