/- Contracts and plain facts, joined: NumI. -/
import Derived.Test.YtockglfoeagahaaGreatDoorRows
import Derived.Test.YtockglfoeagahaaGreatDoorZFnWarbleZD
namespace Go.Proofs.YtockglfoeagahaaGreatDoor
open Go.ChangeShapes Go.WideShapes Go.ChangeAt Go.RowKit Go.Deep Go.Joins
set_option linter.unusedVariables false
set_option maxRecDepth 100000
set_option linter.unusedSimpArgs false
def Tryz.layTrim_ren : Go.Shelf.Ren := ⟨fun | 101 => 55 | 208 => 83 | 206 => 104 | n => n, fun | 9 => 9 | 4 => 4 | 3 => 3 | n => n, fun | n => n⟩
theorem Tryz.layTrim : Go.Proofs.Lays.n101 Tryz.prog Tryz.layTrim_ren := {
  mixed := by kernel_rfl
  f101 := Tryz.func55.trans (congrArg some (by kernel_rfl))
  f206 := Tryz.func104.trans (congrArg some (by kernel_rfl))
  f208 := Tryz.func83.trans (congrArg some (by kernel_rfl))
  t3 := Tryz.underlying3
  a3 := Tryz.isAgg3
  z3 := Tryz.sizeOf3
  v3 := Tryz.zeroValue3
  t4 := Tryz.underlying4
  a4 := Tryz.isAgg4
  z4 := Tryz.sizeOf4
  v4 := Tryz.zeroValue4
  t9 := Tryz.underlying9
  a9 := Tryz.isAgg9
  z9 := Tryz.sizeOf9
  v9 := Tryz.zeroValue9 }
def Tryz.layPI_ren : Go.Shelf.Ren := ⟨fun | 174 => 56 | 247 => 84 | 245 => 85 | 287 => 105 | 279 => 106 | 280 => 107 | 281 => 108 | 282 => 109 | 321 => 122 | 322 => 123 | 316 => 124 | 171 => 126 | 205 => 125 | 243 => 131 | 246 => 86 | 283 => 110 | 284 => 111 | 285 => 112 | 286 => 113 | 129 => 75 | 317 => 127 | 318 => 128 | 319 => 129 | 320 => 130 | 337 => 132 | 338 => 133 | n => n, fun | 9 => 9 | 3 => 3 | 2 => 2 | 75 => 85 | 85 => 86 | 4 => 4 | 167 => 126 | 5 => 5 | 53 => 70 | 175 => 127 | 46 => 75 | 168 => 129 | 37 => 22 | 0 => 0 | 210 => 150 | 21 => 21 | 127 => 112 | 145 => 162 | 143 => 160 | 171 => 133 | 173 => 135 | 212 => 153 | 51 => 106 | 20 => 20 | 213 => 154 | 232 => 163 | 233 => 164 | 80 => 95 | n => n, fun | 15 => 2 | 16 => 3 | 17 => 4 | 18 => 7 | 19 => 8 | n => n⟩
theorem Tryz.layPI : Go.Proofs.LaysC.n174 Tryz.prog Tryz.layPI_ren := {
  mixed := by kernel_rfl
  f129 := Tryz.func75.trans (congrArg some (by kernel_rfl))
  f171 := Tryz.func126.trans (congrArg some (by kernel_rfl))
  f174 := Tryz.func56.trans (congrArg some (by kernel_rfl))
  f205 := Tryz.func125.trans (congrArg some (by kernel_rfl))
  f243 := Tryz.func131.trans (congrArg some (by kernel_rfl))
  f245 := Tryz.func85.trans (congrArg some (by kernel_rfl))
  f246 := Tryz.func86.trans (congrArg some (by kernel_rfl))
  f247 := Tryz.func84.trans (congrArg some (by kernel_rfl))
  f279 := Tryz.func106.trans (congrArg some (by kernel_rfl))
  f280 := Tryz.func107.trans (congrArg some (by kernel_rfl))
  f281 := Tryz.func108.trans (congrArg some (by kernel_rfl))
  f282 := Tryz.func109.trans (congrArg some (by kernel_rfl))
  f283 := Tryz.func110.trans (congrArg some (by kernel_rfl))
  f284 := Tryz.func111.trans (congrArg some (by kernel_rfl))
  f285 := Tryz.func112.trans (congrArg some (by kernel_rfl))
  f286 := Tryz.func113.trans (congrArg some (by kernel_rfl))
  f287 := Tryz.func105.trans (congrArg some (by kernel_rfl))
  f316 := Tryz.func124.trans (congrArg some (by kernel_rfl))
  f317 := Tryz.func127.trans (congrArg some (by kernel_rfl))
  f318 := Tryz.func128.trans (congrArg some (by kernel_rfl))
  f319 := Tryz.func129.trans (congrArg some (by kernel_rfl))
  f320 := Tryz.func130.trans (congrArg some (by kernel_rfl))
  f321 := Tryz.func122.trans (congrArg some (by kernel_rfl))
  f322 := Tryz.func123.trans (congrArg some (by kernel_rfl))
  f337 := Tryz.func132.trans (congrArg some (by kernel_rfl))
  f338 := Tryz.func133.trans (congrArg some (by kernel_rfl))
  t0 := Tryz.underlying0
  a0 := Tryz.isAgg0
  z0 := Tryz.sizeOf0
  v0 := Tryz.zeroValue0
  t2 := Tryz.underlying2
  a2 := Tryz.isAgg2
  z2 := Tryz.sizeOf2
  v2 := Tryz.zeroValue2
  t3 := Tryz.underlying3
  a3 := Tryz.isAgg3
  z3 := Tryz.sizeOf3
  v3 := Tryz.zeroValue3
  t4 := Tryz.underlying4
  a4 := Tryz.isAgg4
  z4 := Tryz.sizeOf4
  v4 := Tryz.zeroValue4
  t5 := Tryz.underlying5
  a5 := Tryz.isAgg5
  z5 := Tryz.sizeOf5
  v5 := Tryz.zeroValue5
  t9 := Tryz.underlying9
  a9 := Tryz.isAgg9
  z9 := Tryz.sizeOf9
  v9 := Tryz.zeroValue9
  t20 := Tryz.underlying20
  a20 := Tryz.isAgg20
  z20 := Tryz.sizeOf20
  v20 := Tryz.zeroValue20
  t21 := Tryz.underlying21
  a21 := Tryz.isAgg21
  z21 := Tryz.sizeOf21
  v21 := Tryz.zeroValue21
  t37 := Tryz.underlying22
  a37 := Tryz.isAgg22
  z37 := Tryz.sizeOf22
  v37 := Tryz.zeroValue22
  t46 := Tryz.underlying75
  a46 := Tryz.isAgg75
  z46 := Tryz.sizeOf75
  v46 := Tryz.zeroValue75
  t51 := Tryz.underlying106
  a51 := Tryz.isAgg106
  z51 := Tryz.sizeOf106
  v51 := Tryz.zeroValue106
  t53 := Tryz.underlying70
  a53 := Tryz.isAgg70
  z53 := Tryz.sizeOf70
  v53 := Tryz.zeroValue70
  t75 := Tryz.underlying85
  a75 := Tryz.isAgg85
  z75 := Tryz.sizeOf85
  v75 := Tryz.zeroValue85
  t85 := Tryz.underlying86
  a85 := Tryz.isAgg86
  z85 := Tryz.sizeOf86
  v85 := Tryz.zeroValue86
  t127 := Tryz.underlying112
  a127 := Tryz.isAgg112
  z127 := Tryz.sizeOf112
  v127 := Tryz.zeroValue112
  t143 := Tryz.underlying160
  a143 := Tryz.isAgg160
  z143 := Tryz.sizeOf160
  v143 := Tryz.zeroValue160
  t145 := Tryz.underlying162
  a145 := Tryz.isAgg162
  z145 := Tryz.sizeOf162
  v145 := Tryz.zeroValue162
  t167 := Tryz.underlying126
  a167 := Tryz.isAgg126
  z167 := Tryz.sizeOf126
  v167 := Tryz.zeroValue126
  t168 := Tryz.underlying129
  a168 := Tryz.isAgg129
  z168 := Tryz.sizeOf129
  v168 := Tryz.zeroValue129
  t171 := Tryz.underlying133
  a171 := Tryz.isAgg133
  z171 := Tryz.sizeOf133
  v171 := Tryz.zeroValue133
  t173 := Tryz.underlying135
  a173 := Tryz.isAgg135
  z173 := Tryz.sizeOf135
  v173 := Tryz.zeroValue135
  t175 := Tryz.underlying127
  a175 := Tryz.isAgg127
  z175 := Tryz.sizeOf127
  v175 := Tryz.zeroValue127
  t210 := Tryz.underlying150
  a210 := Tryz.isAgg150
  z210 := Tryz.sizeOf150
  v210 := Tryz.zeroValue150
  t212 := Tryz.underlying153
  a212 := Tryz.isAgg153
  z212 := Tryz.sizeOf153
  v212 := Tryz.zeroValue153
  t213 := Tryz.underlying154
  a213 := Tryz.isAgg154
  z213 := Tryz.sizeOf154
  t232 := Tryz.underlying163
  a232 := Tryz.isAgg163
  z232 := Tryz.sizeOf163
  v232 := Tryz.zeroValue163
  t233 := Tryz.underlying164
  a233 := Tryz.isAgg164
  z233 := Tryz.sizeOf164
  v233 := Tryz.zeroValue164
  g15 := by kernel_rfl
  g16 := by kernel_rfl
  g17 := by kernel_rfl
  g18 := by kernel_rfl
  g19 := by kernel_rfl
  t80 := Tryz.underlying95
  a80 := Tryz.isAgg95
  z80 := Tryz.sizeOf95
  v80 := Tryz.zeroValue95
  i0 := by kernel_rfl
  i2 := by kernel_rfl
  i3 := by kernel_rfl
  i4 := by kernel_rfl
  i5 := by kernel_rfl
  i9 := by kernel_rfl
  i20 := by kernel_rfl
  i21 := by kernel_rfl
  i37 := by kernel_rfl
  i46 := by kernel_rfl
  i51 := by kernel_rfl
  i53 := by kernel_rfl
  i75 := by kernel_rfl
  i80 := by kernel_rfl
  i85 := by kernel_rfl
  i127 := by kernel_rfl
  i143 := by kernel_rfl
  i145 := by kernel_rfl
  i167 := by kernel_rfl
  i168 := by kernel_rfl
  i171 := by kernel_rfl
  i173 := by kernel_rfl
  i175 := by kernel_rfl
  i210 := by kernel_rfl
  i212 := by kernel_rfl
  i232 := by kernel_rfl
  i233 := by kernel_rfl
  m15 := by kernel_rfl
  m16 := by kernel_rfl
  m17 := by kernel_rfl
  m18 := by kernel_rfl
  m19 := by kernel_rfl
  c0 := by kernel_rfl
  c2 := by kernel_rfl
  c3 := by kernel_rfl
  c4 := by kernel_rfl
  c5 := by kernel_rfl
  c9 := by kernel_rfl
  c20 := by kernel_rfl
  c21 := by kernel_rfl
  c37 := by kernel_rfl
  c46 := by kernel_rfl
  c51 := by kernel_rfl
  c53 := by kernel_rfl
  c75 := by kernel_rfl
  c80 := by kernel_rfl
  c85 := by kernel_rfl
  c127 := by kernel_rfl
  c143 := by kernel_rfl
  c145 := by kernel_rfl
  c167 := by kernel_rfl
  c168 := by kernel_rfl
  c171 := by kernel_rfl
  c173 := by kernel_rfl
  c175 := by kernel_rfl
  c210 := by kernel_rfl
  c212 := by kernel_rfl
  c213 := by kernel_rfl
  c232 := by kernel_rfl
  c233 := by kernel_rfl }
/-- the variable strconv.ErrSyntax holds an error -/
def ErrS (w : World) : Prop := ∃ ev, w.cell? ⟨2, 0, none⟩ = some ev ∧ (ev = .nilIface ∨ ∃ te pe, ev = .iface te pe)
theorem ErrS.below {w w' : World} (h : ErrS w) (b : Below w.heap.size w w') : ErrS w' := by
  obtain ⟨ev, h1, h2⟩ := h
  exact ⟨ev, (b.cell (p := ⟨_, 0, none⟩) (Lib.lt_of_cell h1)).trans h1, h2⟩
theorem text_eq {a b : ByteArray} (h : a = b) : (a.toList == b.toList) = true := by rw [h]; simp
theorem text_ne {a b : ByteArray} (h : a ≠ b) : (a.toList == b.toList) = false := by
  rw [beq_eq_false_iff_ne, ByteArray.toList_eq, ByteArray.toList_eq]
  intro q
  exact h (bytes_inj q)
set_option maxHeartbeats 4000000 in
theorem impl_ReadDecimal (s : ByteArray) (w : World) (hs : s.size ≤ 2147483647) (hp : Pow10 w) (he : ErrS w) :
    Calls Tryz.prog 40 #[.string s] w fun e w' => e = .returned (.tuple #[.int .i64 (numV s), .bool (numS s).isSome]) ∧ Below w.heap.size w w' := by
  have hTr := Lib.hid (Any.strings_TrimPrefix Tryz.layTrim s ⟨#[45]⟩ w)
  obtain ⟨D, hD, hDs⟩ : ∃ D : ByteArray, (⟨(Lib.trimPrefix s.data.toList (⟨#[45]⟩ : ByteArray).data.toList).toArray⟩ : ByteArray) = D ∧ D.size = s.size - atN s := by
    refine ⟨_, rfl, ?_⟩
    have e1 : (⟨#[45]⟩ : ByteArray).data.toList = [45] := rfl
    rw [e1, trim_eq]
    show Array.size _ = _
    simp
  rw [hD] at hTr
  clear hD
  have HP := Lib.hid hp; clear hp
  have HE := Lib.hid he; clear he
  by_cases h1 : D.size < 1
  · have e := Lib.hid (num_none (numS_bad (s := s) (.inl (by omega))))
    have t1 : decide ((D.size : Int) < 1) = true := decide_eq_true (by omega)
    go_enter Tryz.func40, Tryz.ntmps40
    go_wp2_with (go_at_call 55; refine hTr.out.mono ?_; rintro e w' ⟨rfl, rfl⟩)
    go_ret2
    exact ⟨by rw [e.out.1, e.out.2]; rfl, Below.refl _ _⟩
  have t1 : decide ((D.size : Int) < 1) = false := decide_eq_false (by omega)
  by_cases h2 : 18 < D.size
  · have e := Lib.hid (num_none (numS_bad (s := s) (.inr (.inl (by omega)))))
    have t2 : decide ((18 : Int) < (D.size : Int)) = true := decide_eq_true (by omega)
    go_enter Tryz.func40, Tryz.ntmps40
    go_wp2_with (go_at_call 55; refine hTr.out.mono ?_; rintro e w' ⟨rfl, rfl⟩)
    go_ret2
    exact ⟨by rw [e.out.1, e.out.2]; rfl, Below.refl _ _⟩
  have t2 : decide ((18 : Int) < (D.size : Int)) = false := decide_eq_false (by omega)
  rcases parse_num (s := s) (by omega) (by omega) with ⟨v, h3, hb, hv⟩ | ⟨h3, h4⟩
  · have hPI := Lib.hid (Any.strconv_ParseInt_10_at64_ok Tryz.layPI s (by omega) v h3 w)
    clear h3
    rcases hv with ⟨h4, h5⟩ | ⟨h4, h5⟩
    · have t3 := text_eq h4
      have e := Lib.hid (num_some h5)
      clear h4 h5
      go_enter Tryz.func40, Tryz.ntmps40
      go_wp2_with (go_at_call 55; refine hTr.out.mono ?_; rintro e w' ⟨rfl, rfl⟩)
      refine hPI.out.mono ?_; rintro e w1 ⟨rfl, hw⟩
      have HB1 : Hid (Below w'.heap.size w' w1) := Lib.hid (by rcases hw with rfl | ⟨t, rfl⟩; exact Below.refl _ _; exact Lib.bytesWorld_below _ _ _)
      clear hw
      go_wp2_with fail
      refine (impl_Decimal v _ (by omega) (by omega) (HP.out.below HB1.out)).mono ?_; rintro e w2 ⟨rfl, b2⟩
      have HB2 := Lib.hid (bnext HB1.out b2); clear b2
      go_wp2_with fail
      go_ret2
      exact ⟨by rw [e.out.1, e.out.2]; rfl, HB2.out⟩
    · have t3 := text_ne h4
      have e := Lib.hid (num_none h5)
      clear h4 h5
      go_enter Tryz.func40, Tryz.ntmps40
      go_wp2_with (go_at_call 55; refine hTr.out.mono ?_; rintro e w' ⟨rfl, rfl⟩)
      refine hPI.out.mono ?_; rintro e w1 ⟨rfl, hw⟩
      have HB1 : Hid (Below w'.heap.size w' w1) := Lib.hid (by rcases hw with rfl | ⟨t, rfl⟩; exact Below.refl _ _; exact Lib.bytesWorld_below _ _ _)
      clear hw
      go_wp2_with fail
      refine (impl_Decimal v _ (by omega) (by omega) (HP.out.below HB1.out)).mono ?_; rintro e w2 ⟨rfl, b2⟩
      have HB2 := Lib.hid (bnext HB1.out b2); clear b2
      go_wp2_with fail
      go_ret2
      exact ⟨by rw [e.out.1, e.out.2]; rfl, HB2.out⟩
  · obtain ⟨ev, hv1, hv2⟩ := HE.out
    have hPI := Lib.hid (Any.strconv_ParseInt_10_at64_syntax Tryz.layPI s (by omega) h3 ev w hv1 hv2)
    have e := Lib.hid (num_none h4)
    clear h3 h4 hv1 hv2
    go_enter Tryz.func40, Tryz.ntmps40
    go_wp2_with (go_at_call 55; refine hTr.out.mono ?_; rintro e w' ⟨rfl, rfl⟩)
    refine hPI.out.mono ?_; rintro e w1 ⟨N, rfl, _, _, b1⟩
    have HB1 := Lib.hid b1; clear b1
    go_wp2_with fail
    go_ret2
    exact ⟨by rw [e.out.1, e.out.2]; rfl, HB1.out⟩
end Go.Proofs.YtockglfoeagahaaGreatDoor
