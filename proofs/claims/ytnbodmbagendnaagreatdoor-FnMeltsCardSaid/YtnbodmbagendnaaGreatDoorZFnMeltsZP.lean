/- Contracts and plain facts, joined: NumI. -/
import Derived.Test.YtnbodmbagendnaaGreatDoorRows
import Derived.Test.YtnbodmbagendnaaGreatDoorZFnMeltsZO
namespace Go.Proofs.YtnbodmbagendnaaGreatDoor
open Go.ChangeShapes Go.WideShapes Go.ChangeAt Go.RowKit Go.Deep Go.Joins
set_option linter.unusedVariables false
set_option maxRecDepth 100000
set_option linter.unusedSimpArgs false
def Tryz.layTrim_ren : Go.Shelf.Ren := ⟨fun | 101 => 70 | 208 => 93 | 206 => 114 | n => n, fun | 9 => 9 | 4 => 4 | 3 => 3 | n => n, fun | n => n⟩
theorem Tryz.layTrim : Go.Proofs.Lays.n101 Tryz.prog Tryz.layTrim_ren := {
  mixed := by kernel_rfl
  f101 := Tryz.func70.trans (congrArg some (by kernel_rfl))
  f206 := Tryz.func114.trans (congrArg some (by kernel_rfl))
  f208 := Tryz.func93.trans (congrArg some (by kernel_rfl))
  t3 := Tryz.underlying3
  a3 := Tryz.isAgg3
  z3 := Tryz.sizeOf3
  v3 := Tryz.zeroValue3
  t4 := Tryz.underlying4
  a4 := Tryz.isAgg4
  z4 := Tryz.sizeOf4
  v4 := Tryz.zeroValue4
  t9 := Tryz.underlying9
  a9 := Tryz.isAgg9
  z9 := Tryz.sizeOf9
  v9 := Tryz.zeroValue9 }
def Tryz.layPI_ren : Go.Shelf.Ren := ⟨fun | 174 => 71 | 247 => 94 | 245 => 95 | 287 => 115 | 279 => 116 | 280 => 117 | 281 => 118 | 282 => 119 | 321 => 135 | 322 => 136 | 316 => 137 | 171 => 139 | 205 => 138 | 243 => 148 | 246 => 98 | 283 => 122 | 284 => 123 | 285 => 124 | 286 => 125 | 129 => 141 | 317 => 140 | 318 => 142 | 319 => 143 | 320 => 144 | 337 => 149 | 338 => 150 | n => n, fun | 9 => 9 | 3 => 3 | 2 => 2 | 75 => 100 | 85 => 101 | 4 => 4 | 167 => 134 | 5 => 5 | 53 => 65 | 175 => 135 | 46 => 115 | 168 => 137 | 37 => 22 | 0 => 0 | 210 => 154 | 21 => 21 | 127 => 122 | 145 => 172 | 143 => 170 | 171 => 144 | 173 => 147 | 212 => 157 | 51 => 158 | 20 => 20 | 213 => 159 | 232 => 176 | 233 => 177 | 80 => 109 | n => n, fun | 15 => 1 | 16 => 2 | 17 => 3 | 18 => 6 | 19 => 7 | n => n⟩
theorem Tryz.layPI : Go.Proofs.LaysC.n174 Tryz.prog Tryz.layPI_ren := {
  mixed := by kernel_rfl
  f129 := Tryz.func141.trans (congrArg some (by kernel_rfl))
  f171 := Tryz.func139.trans (congrArg some (by kernel_rfl))
  f174 := Tryz.func71.trans (congrArg some (by kernel_rfl))
  f205 := Tryz.func138.trans (congrArg some (by kernel_rfl))
  f243 := Tryz.func148.trans (congrArg some (by kernel_rfl))
  f245 := Tryz.func95.trans (congrArg some (by kernel_rfl))
  f246 := Tryz.func98.trans (congrArg some (by kernel_rfl))
  f247 := Tryz.func94.trans (congrArg some (by kernel_rfl))
  f279 := Tryz.func116.trans (congrArg some (by kernel_rfl))
  f280 := Tryz.func117.trans (congrArg some (by kernel_rfl))
  f281 := Tryz.func118.trans (congrArg some (by kernel_rfl))
  f282 := Tryz.func119.trans (congrArg some (by kernel_rfl))
  f283 := Tryz.func122.trans (congrArg some (by kernel_rfl))
  f284 := Tryz.func123.trans (congrArg some (by kernel_rfl))
  f285 := Tryz.func124.trans (congrArg some (by kernel_rfl))
  f286 := Tryz.func125.trans (congrArg some (by kernel_rfl))
  f287 := Tryz.func115.trans (congrArg some (by kernel_rfl))
  f316 := Tryz.func137.trans (congrArg some (by kernel_rfl))
  f317 := Tryz.func140.trans (congrArg some (by kernel_rfl))
  f318 := Tryz.func142.trans (congrArg some (by kernel_rfl))
  f319 := Tryz.func143.trans (congrArg some (by kernel_rfl))
  f320 := Tryz.func144.trans (congrArg some (by kernel_rfl))
  f321 := Tryz.func135.trans (congrArg some (by kernel_rfl))
  f322 := Tryz.func136.trans (congrArg some (by kernel_rfl))
  f337 := Tryz.func149.trans (congrArg some (by kernel_rfl))
  f338 := Tryz.func150.trans (congrArg some (by kernel_rfl))
  t0 := Tryz.underlying0
  a0 := Tryz.isAgg0
  z0 := Tryz.sizeOf0
  v0 := Tryz.zeroValue0
  t2 := Tryz.underlying2
  a2 := Tryz.isAgg2
  z2 := Tryz.sizeOf2
  v2 := Tryz.zeroValue2
  t3 := Tryz.underlying3
  a3 := Tryz.isAgg3
  z3 := Tryz.sizeOf3
  v3 := Tryz.zeroValue3
  t4 := Tryz.underlying4
  a4 := Tryz.isAgg4
  z4 := Tryz.sizeOf4
  v4 := Tryz.zeroValue4
  t5 := Tryz.underlying5
  a5 := Tryz.isAgg5
  z5 := Tryz.sizeOf5
  v5 := Tryz.zeroValue5
  t9 := Tryz.underlying9
  a9 := Tryz.isAgg9
  z9 := Tryz.sizeOf9
  v9 := Tryz.zeroValue9
  t20 := Tryz.underlying20
  a20 := Tryz.isAgg20
  z20 := Tryz.sizeOf20
  v20 := Tryz.zeroValue20
  t21 := Tryz.underlying21
  a21 := Tryz.isAgg21
  z21 := Tryz.sizeOf21
  v21 := Tryz.zeroValue21
  t37 := Tryz.underlying22
  a37 := Tryz.isAgg22
  z37 := Tryz.sizeOf22
  v37 := Tryz.zeroValue22
  t46 := Tryz.underlying115
  a46 := Tryz.isAgg115
  z46 := Tryz.sizeOf115
  v46 := Tryz.zeroValue115
  t51 := Tryz.underlying158
  a51 := Tryz.isAgg158
  z51 := Tryz.sizeOf158
  v51 := Tryz.zeroValue158
  t53 := Tryz.underlying65
  a53 := Tryz.isAgg65
  z53 := Tryz.sizeOf65
  v53 := Tryz.zeroValue65
  t75 := Tryz.underlying100
  a75 := Tryz.isAgg100
  z75 := Tryz.sizeOf100
  v75 := Tryz.zeroValue100
  t85 := Tryz.underlying101
  a85 := Tryz.isAgg101
  z85 := Tryz.sizeOf101
  v85 := Tryz.zeroValue101
  t127 := Tryz.underlying122
  a127 := Tryz.isAgg122
  z127 := Tryz.sizeOf122
  v127 := Tryz.zeroValue122
  t143 := Tryz.underlying170
  a143 := Tryz.isAgg170
  z143 := Tryz.sizeOf170
  v143 := Tryz.zeroValue170
  t145 := Tryz.underlying172
  a145 := Tryz.isAgg172
  z145 := Tryz.sizeOf172
  v145 := Tryz.zeroValue172
  t167 := Tryz.underlying134
  a167 := Tryz.isAgg134
  z167 := Tryz.sizeOf134
  v167 := Tryz.zeroValue134
  t168 := Tryz.underlying137
  a168 := Tryz.isAgg137
  z168 := Tryz.sizeOf137
  v168 := Tryz.zeroValue137
  t171 := Tryz.underlying144
  a171 := Tryz.isAgg144
  z171 := Tryz.sizeOf144
  v171 := Tryz.zeroValue144
  t173 := Tryz.underlying147
  a173 := Tryz.isAgg147
  z173 := Tryz.sizeOf147
  v173 := Tryz.zeroValue147
  t175 := Tryz.underlying135
  a175 := Tryz.isAgg135
  z175 := Tryz.sizeOf135
  v175 := Tryz.zeroValue135
  t210 := Tryz.underlying154
  a210 := Tryz.isAgg154
  z210 := Tryz.sizeOf154
  v210 := Tryz.zeroValue154
  t212 := Tryz.underlying157
  a212 := Tryz.isAgg157
  z212 := Tryz.sizeOf157
  v212 := Tryz.zeroValue157
  t213 := Tryz.underlying159
  a213 := Tryz.isAgg159
  z213 := Tryz.sizeOf159
  t232 := Tryz.underlying176
  a232 := Tryz.isAgg176
  z232 := Tryz.sizeOf176
  v232 := Tryz.zeroValue176
  t233 := Tryz.underlying177
  a233 := Tryz.isAgg177
  z233 := Tryz.sizeOf177
  v233 := Tryz.zeroValue177
  g15 := by kernel_rfl
  g16 := by kernel_rfl
  g17 := by kernel_rfl
  g18 := by kernel_rfl
  g19 := by kernel_rfl
  t80 := Tryz.underlying109
  a80 := Tryz.isAgg109
  z80 := Tryz.sizeOf109
  v80 := Tryz.zeroValue109
  i0 := by kernel_rfl
  i2 := by kernel_rfl
  i3 := by kernel_rfl
  i4 := by kernel_rfl
  i5 := by kernel_rfl
  i9 := by kernel_rfl
  i20 := by kernel_rfl
  i21 := by kernel_rfl
  i37 := by kernel_rfl
  i46 := by kernel_rfl
  i51 := by kernel_rfl
  i53 := by kernel_rfl
  i75 := by kernel_rfl
  i80 := by kernel_rfl
  i85 := by kernel_rfl
  i127 := by kernel_rfl
  i143 := by kernel_rfl
  i145 := by kernel_rfl
  i167 := by kernel_rfl
  i168 := by kernel_rfl
  i171 := by kernel_rfl
  i173 := by kernel_rfl
  i175 := by kernel_rfl
  i210 := by kernel_rfl
  i212 := by kernel_rfl
  i232 := by kernel_rfl
  i233 := by kernel_rfl
  m15 := by kernel_rfl
  m16 := by kernel_rfl
  m17 := by kernel_rfl
  m18 := by kernel_rfl
  m19 := by kernel_rfl
  c0 := by kernel_rfl
  c2 := by kernel_rfl
  c3 := by kernel_rfl
  c4 := by kernel_rfl
  c5 := by kernel_rfl
  c9 := by kernel_rfl
  c20 := by kernel_rfl
  c21 := by kernel_rfl
  c37 := by kernel_rfl
  c46 := by kernel_rfl
  c51 := by kernel_rfl
  c53 := by kernel_rfl
  c75 := by kernel_rfl
  c80 := by kernel_rfl
  c85 := by kernel_rfl
  c127 := by kernel_rfl
  c143 := by kernel_rfl
  c145 := by kernel_rfl
  c167 := by kernel_rfl
  c168 := by kernel_rfl
  c171 := by kernel_rfl
  c173 := by kernel_rfl
  c175 := by kernel_rfl
  c210 := by kernel_rfl
  c212 := by kernel_rfl
  c213 := by kernel_rfl
  c232 := by kernel_rfl
  c233 := by kernel_rfl }
/-- the variable strconv.ErrSyntax holds an error -/
def ErrS (w : World) : Prop := ∃ ev, w.cell? ⟨1, 0, none⟩ = some ev ∧ (ev = .nilIface ∨ ∃ te pe, ev = .iface te pe)
theorem ErrS.below {w w' : World} (h : ErrS w) (b : Below w.heap.size w w') : ErrS w' := by
  obtain ⟨ev, h1, h2⟩ := h
  exact ⟨ev, (b.cell (p := ⟨_, 0, none⟩) (Lib.lt_of_cell h1)).trans h1, h2⟩
theorem text_eq {a b : ByteArray} (h : a = b) : (a.toList == b.toList) = true := by rw [h]; simp
theorem text_ne {a b : ByteArray} (h : a ≠ b) : (a.toList == b.toList) = false := by
  rw [beq_eq_false_iff_ne, ByteArray.toList_eq, ByteArray.toList_eq]
  intro q
  exact h (bytes_inj q)
set_option maxHeartbeats 4000000 in
theorem impl_ReadDecimal (s : ByteArray) (w : World) (hs : s.size ≤ 2147483647) (hp : Pow10 w) (he : ErrS w) :
    Calls Tryz.prog 34 #[.string s] w fun e w' => e = .returned (.tuple #[.int .i64 (numV s), .bool (numS s).isSome]) ∧ Below w.heap.size w w' := by
  have hTr := Lib.hid (Any.strings_TrimPrefix Tryz.layTrim s ⟨#[45]⟩ w)
  obtain ⟨D, hD, hDs⟩ : ∃ D : ByteArray, (⟨(Lib.trimPrefix s.data.toList (⟨#[45]⟩ : ByteArray).data.toList).toArray⟩ : ByteArray) = D ∧ D.size = s.size - atN s := by
    refine ⟨_, rfl, ?_⟩
    have e1 : (⟨#[45]⟩ : ByteArray).data.toList = [45] := rfl
    rw [e1, trim_eq]
    show Array.size _ = _
    simp
  rw [hD] at hTr
  clear hD
  have HP := Lib.hid hp; clear hp
  have HE := Lib.hid he; clear he
  by_cases h1 : D.size < 1
  · have e := Lib.hid (num_none (numS_bad (s := s) (.inl (by omega))))
    have t1 : decide ((D.size : Int) < 1) = true := decide_eq_true (by omega)
    go_enter Tryz.func34, Tryz.ntmps34
    go_wp2_with (go_at_call 70; refine hTr.out.mono ?_; rintro e w' ⟨rfl, rfl⟩)
    go_ret2
    exact ⟨by rw [e.out.1, e.out.2]; rfl, Below.refl _ _⟩
  have t1 : decide ((D.size : Int) < 1) = false := decide_eq_false (by omega)
  by_cases h2 : 18 < D.size
  · have e := Lib.hid (num_none (numS_bad (s := s) (.inr (.inl (by omega)))))
    have t2 : decide ((18 : Int) < (D.size : Int)) = true := decide_eq_true (by omega)
    go_enter Tryz.func34, Tryz.ntmps34
    go_wp2_with (go_at_call 70; refine hTr.out.mono ?_; rintro e w' ⟨rfl, rfl⟩)
    go_ret2
    exact ⟨by rw [e.out.1, e.out.2]; rfl, Below.refl _ _⟩
  have t2 : decide ((18 : Int) < (D.size : Int)) = false := decide_eq_false (by omega)
  rcases parse_num (s := s) (by omega) (by omega) with ⟨v, h3, hb, hv⟩ | ⟨h3, h4⟩
  · have hPI := Lib.hid (Any.strconv_ParseInt_10_at64_ok Tryz.layPI s (by omega) v h3 w)
    clear h3
    rcases hv with ⟨h4, h5⟩ | ⟨h4, h5⟩
    · have t3 := text_eq h4
      have e := Lib.hid (num_some h5)
      clear h4 h5
      go_enter Tryz.func34, Tryz.ntmps34
      go_wp2_with (go_at_call 70; refine hTr.out.mono ?_; rintro e w' ⟨rfl, rfl⟩)
      refine hPI.out.mono ?_; rintro e w1 ⟨rfl, hw⟩
      have HB1 : Hid (Below w'.heap.size w' w1) := Lib.hid (by rcases hw with rfl | ⟨t, rfl⟩; exact Below.refl _ _; exact Lib.bytesWorld_below _ _ _)
      clear hw
      go_wp2_with fail
      refine (impl_Decimal v _ (by omega) (by omega) (HP.out.below HB1.out)).mono ?_; rintro e w2 ⟨rfl, b2⟩
      have HB2 := Lib.hid (bnext HB1.out b2); clear b2
      go_wp2_with fail
      go_ret2
      exact ⟨by rw [e.out.1, e.out.2]; rfl, HB2.out⟩
    · have t3 := text_ne h4
      have e := Lib.hid (num_none h5)
      clear h4 h5
      go_enter Tryz.func34, Tryz.ntmps34
      go_wp2_with (go_at_call 70; refine hTr.out.mono ?_; rintro e w' ⟨rfl, rfl⟩)
      refine hPI.out.mono ?_; rintro e w1 ⟨rfl, hw⟩
      have HB1 : Hid (Below w'.heap.size w' w1) := Lib.hid (by rcases hw with rfl | ⟨t, rfl⟩; exact Below.refl _ _; exact Lib.bytesWorld_below _ _ _)
      clear hw
      go_wp2_with fail
      refine (impl_Decimal v _ (by omega) (by omega) (HP.out.below HB1.out)).mono ?_; rintro e w2 ⟨rfl, b2⟩
      have HB2 := Lib.hid (bnext HB1.out b2); clear b2
      go_wp2_with fail
      go_ret2
      exact ⟨by rw [e.out.1, e.out.2]; rfl, HB2.out⟩
  · obtain ⟨ev, hv1, hv2⟩ := HE.out
    have hPI := Lib.hid (Any.strconv_ParseInt_10_at64_syntax Tryz.layPI s (by omega) h3 ev w hv1 hv2)
    have e := Lib.hid (num_none h4)
    clear h3 h4 hv1 hv2
    go_enter Tryz.func34, Tryz.ntmps34
    go_wp2_with (go_at_call 70; refine hTr.out.mono ?_; rintro e w' ⟨rfl, rfl⟩)
    refine hPI.out.mono ?_; rintro e w1 ⟨N, rfl, _, _, b1⟩
    have HB1 := Lib.hid b1; clear b1
    go_wp2_with fail
    go_ret2
    exact ⟨by rw [e.out.1, e.out.2]; rfl, HB1.out⟩
end Go.Proofs.YtnbodmbagendnaaGreatDoor
