/- 'FnExactQuietSpots': for every input the law returns true and its arguments read as they did. No condition beyond the given row. -/
import Derived.Test.YtkolgfmjajlpgaaDoorLWFnExactQuietSpots
import Derived.Test.YtkolgfmjajlpgaaDoorOpn
import Derived.Test.YtkolgfmjajlpgaaDoorCards
import Derived.Test.YtkolgfmjajlpgaaDoorTie
import Derived.Lib.LaidTab
namespace Go.Proofs.YtkolgfmjajlpgaaDoor.fnExactQuietSpots
open Go.ChangeShapes Go.WideShapes Go.ChangeAt Go.RowKit
set_option linter.unusedVariables false

theorem own : ownKnob Tryd.prog.godebug = none := by kernel_rfl

set_option maxRecDepth 100000 in
theorem contract (H : Type) (enc : TypeId × Value → H) (W : World) (base : Nat) (args : Array Value) (ds gs : List (DataW H)) (before : List MemPlace)
    (hval : ∀ (j : Nat) t v, Tryd.f4.params[j]? = some t → args[j]? = some v → Value.okWide Tryd.prog W .any base t v)
    (hW : DataW.Whole enc Tryd.prog Tryd.f4.params.toList Rows.fnExactQuietSpotsSpec.vars false W args.toList ds gs before) (hL : laidMetH Tryd.prog Rows.fnExactQuietSpotsRow.laid W) (hS : W.ShapedOpen Tryd.prog) :
    Calls Tryd.prog 4 args W fun e W' => ∃ v, e = .returned v ∧ Rows.fnExactQuietSpotsSpec.post enc Tryd.prog Tryd.f4 false true false false W args v W' := by
  have hW' := hW
  obtain ⟨p, q, hA0, hV, rfl, hfz, hnd⟩ := hW
  have hA : DataW.TrodAll enc Tryd.prog W 0 (fun _ => true) true Tryd.f4.params.toList args.toList ds p := hA0
  have hlt := hW'.lt
  rw [Tryd.params4] at hA hval
  obtain ⟨v0, vs0, d0, ds0, p0, q0, hargs, rfl, rfl, h0, r0⟩ := trodAll_cons hA
  obtain ⟨v1, vs1, d1, ds1, p1, q1, rfl, rfl, rfl, h1, r1⟩ := trodAll_cons r0
  obtain ⟨v2, vs2, d2, ds2, p2, q2, rfl, rfl, rfl, h2, r2⟩ := trodAll_cons r1
  obtain ⟨v3, vs3, d3, ds3, p3, q3, rfl, rfl, rfl, h3, r3⟩ := trodAll_cons r2
  obtain ⟨rfl, rfl, rfl⟩ := trodAll_nil r3
  obtain rfl : args = #[v0, v1, v2, v3] := by cases args; simp_all
  obtain ⟨dg, gg, tg, csg, fg, pg, rfl, _, _, _, _, _⟩ : ∃ (dg : DataW H) (gg tg : Nat) (csg : Array Value) (fg : Nat) (pg : List MemPlace), gs = [dg] ∧ True ∧ True ∧ True ∧ True ∧ True := by
    match gs, hV with
    | [dg], _ => exact ⟨dg, 0, 0, #[], 0, [], rfl, trivial, trivial, trivial, trivial, trivial⟩
  obtain ⟨x0, k0⟩ := arg_slice Tryd.underlying22 open_Spots (hval 0 22 v0 rfl rfl) h0 (fun x hx => hlt x (by simp [hx]))
  obtain ⟨a1, rfl, k1⟩ := arg_i64 Tryd.underlying2 (hval 1 2 v1 rfl rfl) h1
  obtain ⟨a2, rfl, k2⟩ := arg_i64 Tryd.underlying2 (hval 2 2 v2 rfl rfl) h2
  obtain ⟨a3, rfl, k3⟩ := arg_i64 Tryd.underlying2 (hval 3 2 v3 rfl rfl) h3
  have hw := FnExactQuietSpots_walk W v0 x0 k0 a1 k1 a2 k2 a3 k3 hL hS
  exact hw.mono fun e W' ⟨he, hb⟩ => ⟨_, he, post_law (by kernel_rfl) (by kernel_rfl) (tb := 4) rfl Tryd.underlying4 (by kernel_rfl) rfl hW' hb⟩

/-- a world for the witness: the listed variables hold what their initialisers lay -/
noncomputable def laidWorld (os : Os) : World :=
  { World.holding Tryd.prog os ⟨#[], #[], []⟩ with heap := (((World.holding Tryd.prog os ⟨#[], #[], []⟩).heap).modify 0 fun
      | .cells _ t frozen => .cells #[(.int .i64 0 : Value), .int .i64 17452, .int .i64 34899, .int .i64 52336, .int .i64 69756, .int .i64 87156, .int .i64 104528, .int .i64 121869, .int .i64 139173, .int .i64 156434, .int .i64 173648, .int .i64 190809, .int .i64 207912, .int .i64 224951, .int .i64 241922, .int .i64 258819, .int .i64 275637, .int .i64 292372, .int .i64 309017, .int .i64 325568, .int .i64 342020, .int .i64 358368, .int .i64 374607, .int .i64 390731, .int .i64 406737, .int .i64 422618, .int .i64 438371, .int .i64 453990, .int .i64 469472, .int .i64 484810, .int .i64 500000, .int .i64 515038, .int .i64 529919, .int .i64 544639, .int .i64 559193, .int .i64 573576, .int .i64 587785, .int .i64 601815, .int .i64 615661, .int .i64 629320, .int .i64 642788, .int .i64 656059, .int .i64 669131, .int .i64 681998, .int .i64 694658, .int .i64 707107, .int .i64 719340, .int .i64 731354, .int .i64 743145, .int .i64 754710, .int .i64 766044, .int .i64 777146, .int .i64 788011, .int .i64 798636, .int .i64 809017, .int .i64 819152, .int .i64 829038, .int .i64 838671, .int .i64 848048, .int .i64 857167, .int .i64 866025, .int .i64 874620, .int .i64 882948, .int .i64 891007, .int .i64 898794, .int .i64 906308, .int .i64 913545, .int .i64 920505, .int .i64 927184, .int .i64 933580, .int .i64 939693, .int .i64 945519, .int .i64 951057, .int .i64 956305, .int .i64 961262, .int .i64 965926, .int .i64 970296, .int .i64 974370, .int .i64 978148, .int .i64 981627, .int .i64 984808, .int .i64 987688, .int .i64 990268, .int .i64 992546, .int .i64 994522, .int .i64 996195, .int .i64 997564, .int .i64 998630, .int .i64 999391, .int .i64 999848, .int .i64 1000000] t frozen
      | o => o) }
theorem laid_met (os : Os) : laidMet Tryd.prog Rows.fnExactQuietSpotsRow.laid ((laidWorld os).forCall (fun _ _ => 0) ⟨#[], #[(.slice none 0 0 : Value), .int .i64 0, .int .i64 0, .int .i64 0], []⟩).memory :=
  laidMet_of_run' 8 (by kernel_rfl) (by kernel_rfl)
theorem reads (os : Os) {H : Type} (enc : TypeId × Value → H) : ∃ places, DataW.whole enc Tryd.prog ((laidWorld os).forCall (fun _ _ => 0) ⟨#[], #[(.slice none 0 0 : Value), .int .i64 0, .int .i64 0, .int .i64 0], []⟩).memory Tryd.f4.params.toList Rows.fnExactQuietSpotsSpec.vars false (#[(.slice none 0 0 : Value), .int .i64 0, .int .i64 0, .int .i64 0] : Array Value).toList 8 = some ([.nil, .lit (.int .i64 0), .lit (.int .i64 0), .lit (.int .i64 0)], [Rows.laid_loop_example_g00952_impl_sines], places) := by
  have h : (DataW.whole enc Tryd.prog ((laidWorld os).forCall (fun _ _ => 0) ⟨#[], #[(.slice none 0 0 : Value), .int .i64 0, .int .i64 0, .int .i64 0], []⟩).memory Tryd.f4.params.toList Rows.fnExactQuietSpotsSpec.vars false (#[(.slice none 0 0 : Value), .int .i64 0, .int .i64 0, .int .i64 0] : Array Value).toList 8).map (fun x => (x.1, x.2.1)) = some ([.nil, .lit (.int .i64 0), .lit (.int .i64 0), .lit (.int .i64 0)], [Rows.laid_loop_example_g00952_impl_sines]) := by kernel_rfl
  obtain ⟨⟨x, y, z⟩, h1, h2⟩ := Option.map_eq_some_iff.1 h
  simp only [Prod.mk.injEq] at h2
  obtain ⟨rfl, rfl⟩ := h2
  exact ⟨z, h1⟩

set_option maxRecDepth 100000 in
theorem lifted (os : Os) (started : os.Started) (H : Type) (enc : TypeId × Value → H) (F : Stop.Interp) :
    ReturnsInHanded {} Tryd.checked os 4 .any ((OpenSpec.ofChange Rows.fnExactQuietSpotsSpec).preRow enc Tryd.prog Tryd.f4 Rows.fnExactQuietSpotsRow.domain false Rows.fnExactQuietSpotsRow.laid) (((OpenSpec.ofChange Rows.fnExactQuietSpotsSpec).at F).post enc Tryd.prog Tryd.f4 false true false false) := by
  obtain ⟨places, hx⟩ := reads os enc
  refine returnsInHanded_of_row (C := Tryd.checked) (s := OpenSpec.ofChange Rows.fnExactQuietSpotsSpec) own started (by kernel_rfl) Tryd.func4
    (witness_row_at (enc := enc) (C := Tryd.checked) false (laidWorld os) #[(.slice none 0 0 : Value), .int .i64 0, .int .i64 0, .int .i64 0] rfl (by kernel_rfl) (by kernel_rfl) (by kernel_rfl)
      (OpenSpec.preRow_of_cond 8 hx (by kernel_rfl) (fun k hk => by cases hk) (by kernel_rfl) (laid_met os))) ?_
  intro W base args ds gs before hval hW _ _ _ hL hS _
  exact contract H enc W base args ds gs before hval hW hL hS

theorem said : Rows.FnExactQuietSpotsSaid :=
  OpenClaim.holds_of_cond 4 Tryd.f4 rfl rfl rfl rfl rfl rfl rfl ⟨rfl, rfl, rfl, rfl, rfl⟩ rfl rfl rfl rfl rfl (by kernel_rfl) Tryd.func4 (by kernel_rfl)
    (of_decide_eq_true (by kernel_rfl)) (by unfold Func.isWrapper; first | (rw [if_pos (by decide +kernel)]; kernel_rfl) | (rw [if_neg (by decide +kernel)]; exact ⟨rfl, rfl⟩))
    (fun os started H enc _ F => by rw [OpenClaim.pre_eq_preRow]; exact lifted os started H enc F)
theorem plain (f : FuncId) (fn : Func) (hf : Tryd.pinned.checked.prog.funcNamed Rows.fnExactQuietSpotsRow.func = some f) (hfn : Tryd.pinned.checked.prog.funcs[f]? = some fn) :
    false = Tryd.pinned.checked.prog.looks [] ∧ ∀ (j : Nat) t, fn.params[j]? = some t → Tryd.pinned.checked.prog.wantsStandIn t = false := by
  obtain rfl : f = 4 := Option.some.inj ((show Tryd.prog.funcNamed Rows.fnExactQuietSpotsRow.func = some 4 by kernel_rfl).symm.trans hf) |>.symm
  obtain rfl : fn = Tryd.f4 := (Option.some.inj (Tryd.func4.symm.trans hfn)).symm
  refine ⟨by kernel_rfl, fun j t ht => ?_⟩
  rw [Tryd.params4] at ht
  have hm := Array.mem_of_getElem? ht
  have hall : (#[22, 2, 2, 2] : Array Nat).all (fun t => !(Tryd.prog.wantsStandIn t)) = true := by kernel_rfl
  have h2 : (!(Tryd.prog.wantsStandIn t)) = true := Array.all_eq_true_iff_forall_mem.1 hall t hm
  have h3 : Tryd.prog.wantsStandIn t = false := by simpa using h2
  exact h3
theorem card : Rows.FnExactQuietSpotsCardSaid :=
  Claim7.holds_tied_plain_at .later [] _ _ _ _ said (fun _ h => by cases h) (by kernel_rfl) (fun _ h => by cases h) fnExactQuietSpots_row_tie rfl ⟨rfl, rfl⟩ (by kernel_rfl) rfl plain (by kernel_rfl)
end Go.Proofs.YtkolgfmjajlpgaaDoor.fnExactQuietSpots
