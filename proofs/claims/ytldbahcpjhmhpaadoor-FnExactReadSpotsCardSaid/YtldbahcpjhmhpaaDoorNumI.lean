/- ReadDecimal: the program. -/
import Derived.Test.YtldbahcpjhmhpaaDoorRows
import Derived.Test.YtldbahcpjhmhpaaDoorNum
namespace Go.Proofs.YtldbahcpjhmhpaaDoor
open Go.ChangeShapes Go.WideShapes Go.ChangeAt Go.RowKit Go.Deep Go.Joins
set_option linter.unusedVariables false
set_option maxRecDepth 100000
set_option linter.unusedSimpArgs false
def Tryd.layTrim_ren : Go.Shelf.Ren := ⟨fun | 101 => 63 | 208 => 96 | 206 => 124 | n => n, fun | 9 => 9 | 4 => 4 | 3 => 3 | n => n, fun | n => n⟩
theorem Tryd.layTrim : Go.Proofs.Lays.n101 Tryd.prog Tryd.layTrim_ren := {
  mixed := by kernel_rfl
  f101 := Tryd.func63.trans (congrArg some (by kernel_rfl))
  f206 := Tryd.func124.trans (congrArg some (by kernel_rfl))
  f208 := Tryd.func96.trans (congrArg some (by kernel_rfl))
  t3 := Tryd.underlying3
  a3 := Tryd.isAgg3
  z3 := Tryd.sizeOf3
  v3 := Tryd.zeroValue3
  t4 := Tryd.underlying4
  a4 := Tryd.isAgg4
  z4 := Tryd.sizeOf4
  v4 := Tryd.zeroValue4
  t9 := Tryd.underlying9
  a9 := Tryd.isAgg9
  z9 := Tryd.sizeOf9
  v9 := Tryd.zeroValue9 }
def Tryd.layPI_ren : Go.Shelf.Ren := ⟨fun | 174 => 64 | 247 => 97 | 245 => 98 | 287 => 125 | 279 => 126 | 280 => 127 | 281 => 128 | 282 => 129 | 321 => 139 | 322 => 140 | 316 => 141 | 171 => 143 | 205 => 142 | 243 => 151 | 246 => 130 | 283 => 144 | 284 => 145 | 285 => 146 | 286 => 147 | 129 => 153 | 317 => 152 | 318 => 154 | 319 => 155 | 320 => 156 | 337 => 159 | 338 => 160 | n => n, fun | 9 => 9 | 3 => 3 | 2 => 2 | 75 => 92 | 85 => 93 | 4 => 4 | 167 => 141 | 5 => 5 | 53 => 142 | 175 => 143 | 46 => 139 | 168 => 145 | 37 => 114 | 0 => 0 | 210 => 159 | 21 => 21 | 127 => 133 | 145 => 175 | 143 => 173 | 171 => 161 | 173 => 164 | 212 => 177 | 51 => 153 | 20 => 20 | 213 => 178 | 232 => 185 | 233 => 186 | 80 => 120 | n => n, fun | 15 => 1 | 16 => 2 | 17 => 5 | 18 => 6 | 19 => 7 | n => n⟩
theorem Tryd.layPI : Go.Proofs.LaysC.n174 Tryd.prog Tryd.layPI_ren := {
  mixed := by kernel_rfl
  f129 := Tryd.func153.trans (congrArg some (by kernel_rfl))
  f171 := Tryd.func143.trans (congrArg some (by kernel_rfl))
  f174 := Tryd.func64.trans (congrArg some (by kernel_rfl))
  f205 := Tryd.func142.trans (congrArg some (by kernel_rfl))
  f243 := Tryd.func151.trans (congrArg some (by kernel_rfl))
  f245 := Tryd.func98.trans (congrArg some (by kernel_rfl))
  f246 := Tryd.func130.trans (congrArg some (by kernel_rfl))
  f247 := Tryd.func97.trans (congrArg some (by kernel_rfl))
  f279 := Tryd.func126.trans (congrArg some (by kernel_rfl))
  f280 := Tryd.func127.trans (congrArg some (by kernel_rfl))
  f281 := Tryd.func128.trans (congrArg some (by kernel_rfl))
  f282 := Tryd.func129.trans (congrArg some (by kernel_rfl))
  f283 := Tryd.func144.trans (congrArg some (by kernel_rfl))
  f284 := Tryd.func145.trans (congrArg some (by kernel_rfl))
  f285 := Tryd.func146.trans (congrArg some (by kernel_rfl))
  f286 := Tryd.func147.trans (congrArg some (by kernel_rfl))
  f287 := Tryd.func125.trans (congrArg some (by kernel_rfl))
  f316 := Tryd.func141.trans (congrArg some (by kernel_rfl))
  f317 := Tryd.func152.trans (congrArg some (by kernel_rfl))
  f318 := Tryd.func154.trans (congrArg some (by kernel_rfl))
  f319 := Tryd.func155.trans (congrArg some (by kernel_rfl))
  f320 := Tryd.func156.trans (congrArg some (by kernel_rfl))
  f321 := Tryd.func139.trans (congrArg some (by kernel_rfl))
  f322 := Tryd.func140.trans (congrArg some (by kernel_rfl))
  f337 := Tryd.func159.trans (congrArg some (by kernel_rfl))
  f338 := Tryd.func160.trans (congrArg some (by kernel_rfl))
  t0 := Tryd.underlying0
  a0 := Tryd.isAgg0
  z0 := Tryd.sizeOf0
  v0 := Tryd.zeroValue0
  t2 := Tryd.underlying2
  a2 := Tryd.isAgg2
  z2 := Tryd.sizeOf2
  v2 := Tryd.zeroValue2
  t3 := Tryd.underlying3
  a3 := Tryd.isAgg3
  z3 := Tryd.sizeOf3
  v3 := Tryd.zeroValue3
  t4 := Tryd.underlying4
  a4 := Tryd.isAgg4
  z4 := Tryd.sizeOf4
  v4 := Tryd.zeroValue4
  t5 := Tryd.underlying5
  a5 := Tryd.isAgg5
  z5 := Tryd.sizeOf5
  v5 := Tryd.zeroValue5
  t9 := Tryd.underlying9
  a9 := Tryd.isAgg9
  z9 := Tryd.sizeOf9
  v9 := Tryd.zeroValue9
  t20 := Tryd.underlying20
  a20 := Tryd.isAgg20
  z20 := Tryd.sizeOf20
  v20 := Tryd.zeroValue20
  t21 := Tryd.underlying21
  a21 := Tryd.isAgg21
  z21 := Tryd.sizeOf21
  v21 := Tryd.zeroValue21
  t37 := Tryd.underlying114
  a37 := Tryd.isAgg114
  z37 := Tryd.sizeOf114
  v37 := Tryd.zeroValue114
  t46 := Tryd.underlying139
  a46 := Tryd.isAgg139
  z46 := Tryd.sizeOf139
  v46 := Tryd.zeroValue139
  t51 := Tryd.underlying153
  a51 := Tryd.isAgg153
  z51 := Tryd.sizeOf153
  v51 := Tryd.zeroValue153
  t53 := Tryd.underlying142
  a53 := Tryd.isAgg142
  z53 := Tryd.sizeOf142
  v53 := Tryd.zeroValue142
  t75 := Tryd.underlying92
  a75 := Tryd.isAgg92
  z75 := Tryd.sizeOf92
  v75 := Tryd.zeroValue92
  t85 := Tryd.underlying93
  a85 := Tryd.isAgg93
  z85 := Tryd.sizeOf93
  v85 := Tryd.zeroValue93
  t127 := Tryd.underlying133
  a127 := Tryd.isAgg133
  z127 := Tryd.sizeOf133
  v127 := Tryd.zeroValue133
  t143 := Tryd.underlying173
  a143 := Tryd.isAgg173
  z143 := Tryd.sizeOf173
  v143 := Tryd.zeroValue173
  t145 := Tryd.underlying175
  a145 := Tryd.isAgg175
  z145 := Tryd.sizeOf175
  v145 := Tryd.zeroValue175
  t167 := Tryd.underlying141
  a167 := Tryd.isAgg141
  z167 := Tryd.sizeOf141
  v167 := Tryd.zeroValue141
  t168 := Tryd.underlying145
  a168 := Tryd.isAgg145
  z168 := Tryd.sizeOf145
  v168 := Tryd.zeroValue145
  t171 := Tryd.underlying161
  a171 := Tryd.isAgg161
  z171 := Tryd.sizeOf161
  v171 := Tryd.zeroValue161
  t173 := Tryd.underlying164
  a173 := Tryd.isAgg164
  z173 := Tryd.sizeOf164
  v173 := Tryd.zeroValue164
  t175 := Tryd.underlying143
  a175 := Tryd.isAgg143
  z175 := Tryd.sizeOf143
  v175 := Tryd.zeroValue143
  t210 := Tryd.underlying159
  a210 := Tryd.isAgg159
  z210 := Tryd.sizeOf159
  v210 := Tryd.zeroValue159
  t212 := Tryd.underlying177
  a212 := Tryd.isAgg177
  z212 := Tryd.sizeOf177
  v212 := Tryd.zeroValue177
  t213 := Tryd.underlying178
  a213 := Tryd.isAgg178
  z213 := Tryd.sizeOf178
  t232 := Tryd.underlying185
  a232 := Tryd.isAgg185
  z232 := Tryd.sizeOf185
  v232 := Tryd.zeroValue185
  t233 := Tryd.underlying186
  a233 := Tryd.isAgg186
  z233 := Tryd.sizeOf186
  v233 := Tryd.zeroValue186
  g15 := by kernel_rfl
  g16 := by kernel_rfl
  g17 := by kernel_rfl
  g18 := by kernel_rfl
  g19 := by kernel_rfl
  t80 := Tryd.underlying120
  a80 := Tryd.isAgg120
  z80 := Tryd.sizeOf120
  v80 := Tryd.zeroValue120
  i0 := by kernel_rfl
  i2 := by kernel_rfl
  i3 := by kernel_rfl
  i4 := by kernel_rfl
  i5 := by kernel_rfl
  i9 := by kernel_rfl
  i20 := by kernel_rfl
  i21 := by kernel_rfl
  i37 := by kernel_rfl
  i46 := by kernel_rfl
  i51 := by kernel_rfl
  i53 := by kernel_rfl
  i75 := by kernel_rfl
  i80 := by kernel_rfl
  i85 := by kernel_rfl
  i127 := by kernel_rfl
  i143 := by kernel_rfl
  i145 := by kernel_rfl
  i167 := by kernel_rfl
  i168 := by kernel_rfl
  i171 := by kernel_rfl
  i173 := by kernel_rfl
  i175 := by kernel_rfl
  i210 := by kernel_rfl
  i212 := by kernel_rfl
  i232 := by kernel_rfl
  i233 := by kernel_rfl
  m15 := by kernel_rfl
  m16 := by kernel_rfl
  m17 := by kernel_rfl
  m18 := by kernel_rfl
  m19 := by kernel_rfl
  c0 := by kernel_rfl
  c2 := by kernel_rfl
  c3 := by kernel_rfl
  c4 := by kernel_rfl
  c5 := by kernel_rfl
  c9 := by kernel_rfl
  c20 := by kernel_rfl
  c21 := by kernel_rfl
  c37 := by kernel_rfl
  c46 := by kernel_rfl
  c51 := by kernel_rfl
  c53 := by kernel_rfl
  c75 := by kernel_rfl
  c80 := by kernel_rfl
  c85 := by kernel_rfl
  c127 := by kernel_rfl
  c143 := by kernel_rfl
  c145 := by kernel_rfl
  c167 := by kernel_rfl
  c168 := by kernel_rfl
  c171 := by kernel_rfl
  c173 := by kernel_rfl
  c175 := by kernel_rfl
  c210 := by kernel_rfl
  c212 := by kernel_rfl
  c213 := by kernel_rfl
  c232 := by kernel_rfl
  c233 := by kernel_rfl }
/-- the variable strconv.ErrSyntax holds an error -/
def ErrS (w : World) : Prop := ∃ ev, w.cell? ⟨1, 0, none⟩ = some ev ∧ (ev = .nilIface ∨ ∃ te pe, ev = .iface te pe)
theorem ErrS.below {w w' : World} (h : ErrS w) (b : Below w.heap.size w w') : ErrS w' := by
  obtain ⟨ev, h1, h2⟩ := h
  exact ⟨ev, (b.cell (p := ⟨_, 0, none⟩) (Lib.lt_of_cell h1)).trans h1, h2⟩
theorem text_eq {a b : ByteArray} (h : a = b) : (a.toList == b.toList) = true := by rw [h]; simp
theorem text_ne {a b : ByteArray} (h : a ≠ b) : (a.toList == b.toList) = false := by
  rw [beq_eq_false_iff_ne, ByteArray.toList_eq, ByteArray.toList_eq]
  intro q
  exact h (bytes_inj q)
set_option maxHeartbeats 4000000 in
theorem impl_ReadDecimal (s : ByteArray) (w : World) (hs : s.size ≤ 2147483647) (hp : Pow10 w) (he : ErrS w) :
    Calls Tryd.prog 32 #[.string s] w fun e w' => e = .returned (.tuple #[.int .i64 (numV s), .bool (numS s).isSome]) ∧ Below w.heap.size w w' := by
  have hTr := Lib.hid (Any.strings_TrimPrefix Tryd.layTrim s ⟨#[45]⟩ w)
  obtain ⟨D, hD, hDs⟩ : ∃ D : ByteArray, (⟨(Lib.trimPrefix s.data.toList (⟨#[45]⟩ : ByteArray).data.toList).toArray⟩ : ByteArray) = D ∧ D.size = s.size - atN s := by
    refine ⟨_, rfl, ?_⟩
    have e1 : (⟨#[45]⟩ : ByteArray).data.toList = [45] := rfl
    rw [e1, trim_eq]
    show Array.size _ = _
    simp
  rw [hD] at hTr
  clear hD
  have HP := Lib.hid hp; clear hp
  have HE := Lib.hid he; clear he
  by_cases h1 : D.size < 1
  · have e := Lib.hid (num_none (numS_bad (s := s) (.inl (by omega))))
    have t1 : decide ((D.size : Int) < 1) = true := decide_eq_true (by omega)
    go_enter Tryd.func32, Tryd.ntmps32
    go_wp2_with (go_at_call 63; refine hTr.out.mono ?_; rintro e w' ⟨rfl, rfl⟩)
    go_ret2
    exact ⟨by rw [e.out.1, e.out.2]; rfl, Below.refl _ _⟩
  have t1 : decide ((D.size : Int) < 1) = false := decide_eq_false (by omega)
  by_cases h2 : 18 < D.size
  · have e := Lib.hid (num_none (numS_bad (s := s) (.inr (.inl (by omega)))))
    have t2 : decide ((18 : Int) < (D.size : Int)) = true := decide_eq_true (by omega)
    go_enter Tryd.func32, Tryd.ntmps32
    go_wp2_with (go_at_call 63; refine hTr.out.mono ?_; rintro e w' ⟨rfl, rfl⟩)
    go_ret2
    exact ⟨by rw [e.out.1, e.out.2]; rfl, Below.refl _ _⟩
  have t2 : decide ((18 : Int) < (D.size : Int)) = false := decide_eq_false (by omega)
  rcases parse_num (s := s) (by omega) (by omega) with ⟨v, h3, hb, hv⟩ | ⟨h3, h4⟩
  · have hPI := Lib.hid (Any.strconv_ParseInt_10_at64_ok Tryd.layPI s (by omega) v h3 w)
    clear h3
    rcases hv with ⟨h4, h5⟩ | ⟨h4, h5⟩
    · have t3 := text_eq h4
      have e := Lib.hid (num_some h5)
      clear h4 h5
      go_enter Tryd.func32, Tryd.ntmps32
      go_wp2_with (go_at_call 63; refine hTr.out.mono ?_; rintro e w' ⟨rfl, rfl⟩)
      refine hPI.out.mono ?_; rintro e w1 ⟨rfl, hw⟩
      have HB1 : Hid (Below w'.heap.size w' w1) := Lib.hid (by rcases hw with rfl | ⟨t, rfl⟩; exact Below.refl _ _; exact Lib.bytesWorld_below _ _ _)
      clear hw
      go_wp2_with fail
      refine (impl_Decimal v _ (by omega) (by omega) (HP.out.below HB1.out)).mono ?_; rintro e w2 ⟨rfl, b2⟩
      have HB2 := Lib.hid (bnext HB1.out b2); clear b2
      go_wp2_with fail
      go_ret2
      exact ⟨by rw [e.out.1, e.out.2]; rfl, HB2.out⟩
    · have t3 := text_ne h4
      have e := Lib.hid (num_none h5)
      clear h4 h5
      go_enter Tryd.func32, Tryd.ntmps32
      go_wp2_with (go_at_call 63; refine hTr.out.mono ?_; rintro e w' ⟨rfl, rfl⟩)
      refine hPI.out.mono ?_; rintro e w1 ⟨rfl, hw⟩
      have HB1 : Hid (Below w'.heap.size w' w1) := Lib.hid (by rcases hw with rfl | ⟨t, rfl⟩; exact Below.refl _ _; exact Lib.bytesWorld_below _ _ _)
      clear hw
      go_wp2_with fail
      refine (impl_Decimal v _ (by omega) (by omega) (HP.out.below HB1.out)).mono ?_; rintro e w2 ⟨rfl, b2⟩
      have HB2 := Lib.hid (bnext HB1.out b2); clear b2
      go_wp2_with fail
      go_ret2
      exact ⟨by rw [e.out.1, e.out.2]; rfl, HB2.out⟩
  · obtain ⟨ev, hv1, hv2⟩ := HE.out
    have hPI := Lib.hid (Any.strconv_ParseInt_10_at64_syntax Tryd.layPI s (by omega) h3 ev w hv1 hv2)
    have e := Lib.hid (num_none h4)
    clear h3 h4 hv1 hv2
    go_enter Tryd.func32, Tryd.ntmps32
    go_wp2_with (go_at_call 63; refine hTr.out.mono ?_; rintro e w' ⟨rfl, rfl⟩)
    refine hPI.out.mono ?_; rintro e w1 ⟨N, rfl, _, _, b1⟩
    have HB1 := Lib.hid b1; clear b1
    go_wp2_with fail
    go_ret2
    exact ⟨by rw [e.out.1, e.out.2]; rfl, HB1.out⟩
end Go.Proofs.YtldbahcpjhmhpaaDoor
