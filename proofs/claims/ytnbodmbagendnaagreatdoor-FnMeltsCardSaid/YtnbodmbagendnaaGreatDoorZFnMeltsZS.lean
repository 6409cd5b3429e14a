/- Contracts and plain facts, joined: MeltsLaw, DecLaid, ErrLaid. -/
import Derived.Test.YtnbodmbagendnaaGreatDoorRows
import Derived.Test.YtnbodmbagendnaaGreatDoorZFnMeltsZB
import Derived.Test.YtnbodmbagendnaaGreatDoorZFnMeltsZC
import Derived.Test.YtnbodmbagendnaaGreatDoorZFnMeltsZK
import Derived.Test.YtnbodmbagendnaaGreatDoorZFnMeltsZN
import Derived.Test.YtnbodmbagendnaaGreatDoorZFnMeltsZO
import Derived.Test.YtnbodmbagendnaaGreatDoorZFnMeltsZP
import Derived.Test.YtnbodmbagendnaaGreatDoorZFnMeltsZR
import Derived.Lib.LaidTab
import Derived.Stop.LaidErr
namespace Go.Proofs.YtnbodmbagendnaaGreatDoor
open Go.ChangeShapes Go.WideShapes Go.ChangeAt Go.RowKit Go.Deep Go.Joins
set_option linter.unusedVariables false
set_option maxRecDepth 100000
set_option linter.unusedSimpArgs false
theorem insM_len (x : Melt) (ms : List Melt) : (insM x ms).length = ms.length + 1 := by
  have := posM_le ms x.id
  unfold insM
  simp only [List.length_append, List.length_cons, List.length_take, List.length_drop]
  omega
theorem insM_mem {x y : Melt} {ms : List Melt} : y ∈ insM x ms ↔ y = x ∨ y ∈ ms := by
  have e : ms = ms.take (posM ms x.id) ++ ms.drop (posM ms x.id) := (List.take_append_drop _ _).symm
  constructor
  · intro h
    unfold insM at h
    rcases List.mem_append.1 h with h | h
    · exact .inr (List.mem_of_mem_take h)
    · rcases List.mem_cons.1 h with h | h
      · exact .inl h
      · exact .inr (List.mem_of_mem_drop h)
  · intro h
    unfold insM
    rcases h with h | h
    · exact List.mem_append_right _ (List.mem_cons.2 (.inl h))
    · rw [e] at h
      rcases List.mem_append.1 h with h | h
      · exact List.mem_append_left _ h
      · exact List.mem_append_right _ (List.mem_cons.2 (.inr h))
/-- two melts of a valid list -/
theorem melts_two {ms : List Melt} (h : meltsB ms = true) {i j : Nat} (hij : i < j) (hj : j < ms.length) : ltName ms[i].id ms[j].id = true ∧ commonB ms[i].ingots ms[j].ingots = false := by
  refine ⟨risesM_of h i j hij hj, ?_⟩
  have hA : allK (meltsAt ms) ms.length = true := by
    unfold meltsB at h
    rw [Bool.and_eq_true] at h
    exact h.1
  have h1 := allK_true hA j hj
  rw [meltsAt_eq hj, Bool.and_eq_true, Bool.and_eq_true] at h1
  have h2 : ((ms.take j).any fun y => commonB y.ingots ms[j].ingots) = false := by simpa using h1.2.2
  have := (List.any_eq_false.1 h2) ms[i] (by rw [List.mem_take_iff_getElem]; exact ⟨i, by omega, rfl⟩)
  simpa using this
theorem meltsB_of {ms : List Melt} (hl : ms.length ≤ 12) (hm : ∀ m ∈ ms, meltB m = true) (h2 : ∀ i j (_ : i < j) (hj : j < ms.length), ltName ms[i].id ms[j].id = true ∧ commonB ms[i].ingots ms[j].ingots = false) : meltsB ms = true := by
  unfold meltsB
  rw [Bool.and_eq_true, decide_eq_true_eq]
  refine ⟨allK_intro fun k hk => ?_, hl⟩
  refine meltsAt_yes hk (hm _ (List.getElem_mem hk)) ?_ ?_
  · by_cases h0 : 0 < k
    · exact ltPrev_yes hk h0 (h2 (k - 1) k (by omega) hk).1
    · exact ltPrev_zero (by omega)
  · rw [List.any_eq_false]
    intro y hy
    obtain ⟨i, hi, rfl⟩ := List.mem_take_iff_getElem.1 hy
    rw [(h2 i k (by omega) hk).2]
    simp
theorem insM_valid {ms : List Melt} {x : Melt} (h : meltsB ms = true) (hx : meltB x = true) (hn : idM ms x.id = none) (hc : (ms.any fun y => commonB y.ingots x.ingots) = false) (hl : ms.length ≠ 12) : meltsB (insM x ms) = true := by
  have hp := posM_le ms x.id
  have hr := risesM_of h
  obtain ⟨h12, hall⟩ := meltsB_all h
  have hcx : ∀ j (hj : j < ms.length), commonB ms[j].ingots x.ingots = false := fun j hj => by
    have := (List.any_eq_false.1 hc) ms[j] (List.getElem_mem hj)
    simpa using this
  refine meltsB_of (by rw [insM_len]; omega) (fun m hm => ?_) (fun i j hij hj => ?_)
  · rcases insM_mem.1 hm with rfl | hm
    · exact hx
    · exact hall m hm
  · have hi : i < (insM x ms).length := Nat.lt_trans hij hj
    rcases insertIdx_get (a := x) hp (show i < (ms.take (posM ms x.id) ++ x :: ms.drop (posM ms x.id)).length from Nat.lt_trans hij hj) with ⟨q, z, e⟩ | ⟨q, e⟩ | ⟨q, z, e⟩
    · rcases insertIdx_get (a := x) hp hj with ⟨q', z', e'⟩ | ⟨q', e'⟩ | ⟨q', z', e'⟩
      · rw [show (insM x ms)[i] = _ from e, show (insM x ms)[j] = _ from e']; exact melts_two h hij z'
      · rw [show (insM x ms)[i] = _ from e, show (insM x ms)[j] = _ from e']; exact ⟨posM_lt q z, hcx i z⟩
      · rw [show (insM x ms)[i] = _ from e, show (insM x ms)[j] = _ from e']; exact melts_two h (show i < j - 1 by omega) z'
    · rcases insertIdx_get (a := x) hp hj with ⟨q', z', e'⟩ | ⟨q', e'⟩ | ⟨q', z', e'⟩
      · omega
      · omega
      · rw [show (insM x ms)[i] = _ from e, show (insM x ms)[j] = _ from e']; exact ⟨posM_ge hr hn (by omega) z', by rw [commonB_comm]; exact hcx _ z'⟩
    · rcases insertIdx_get (a := x) hp hj with ⟨q', z', e'⟩ | ⟨q', e'⟩ | ⟨q', z', e'⟩
      · omega
      · omega
      · rw [show (insM x ms)[i] = _ from e, show (insM x ms)[j] = _ from e']; exact melts_two h (show i - 1 < j - 1 by omega) z'
/-- removing what was added -/
theorem drop_ins {ms : List Melt} {x : Melt} (hn : idM ms x.id = none) : dropF x.id (insM x ms) = ms := by
  have e : dropF x.id (insM x ms) = dropF x.id (ms.take (posM ms x.id)) ++ dropF x.id (ms.drop (posM ms x.id)) := by
    unfold dropF insM
    rw [List.filter_append, List.filter_cons, if_neg (by rw [strEq_iff.2 rfl]; simp)]
  have e2 : dropF x.id (ms.take (posM ms x.id)) ++ dropF x.id (ms.drop (posM ms x.id)) = dropF x.id ms := by
    unfold dropF
    rw [← List.filter_append, List.take_append_drop]
  rw [e, e2, dropF_none hn]
theorem ins_has (x : Melt) (ms : List Melt) : (idM (insM x ms) x.id).isSome = true := by
  unfold idM
  rw [List.findIdx?_isSome, List.any_eq_true]
  exact ⟨x, insM_mem.2 (.inl rfl), strEq_iff.2 rfl⟩
theorem mayAll_ins {xs : List Ingot} {ms : List Melt} {x : Melt} (h : mayB xs x = true) : mayAll xs (insM x ms) = mayAll xs ms := by
  unfold mayAll
  congr 1
  rw [Bool.eq_iff_iff, List.any_eq_true, List.any_eq_true]
  constructor
  · rintro ⟨y, hy, hb⟩
    rcases insM_mem.1 hy with rfl | hy
    · rw [h] at hb; cases hb
    · exact ⟨y, hy, hb⟩
  · rintro ⟨y, hy, hb⟩
    exact ⟨y, insM_mem.2 (.inr hy), hb⟩
theorem existB_ins {xs : List Ingot} {ms : List Melt} {x : Melt} (h : existB xs ms = true) (hx : noneB xs x = false) : existB xs (insM x ms) = true := by
  unfold existB at *
  rw [Bool.not_eq_true', List.any_eq_false] at *
  intro y hy
  rcases insM_mem.1 hy with rfl | hy
  · rw [hx]; simp
  · exact h y hy
/-- a melt is read back from its text -/
theorem joinT_free2 {c d : UInt8} (hcd : c ≠ d) (xs : List ByteArray) (h : ∀ x ∈ xs, c ∉ x.data.toList) : c ∉ (joinT d xs).data.toList := joinT_free hcd xs h
theorem nameB_no {s : ByteArray} {c : UInt8} (h : nameB s = true) (hc : restC c = false) : c ∉ s.data.toList := by
  intro q
  unfold nameB nameL at h
  simp only [Bool.and_eq_true, decide_eq_true_eq] at h
  have := List.all_eq_true.1 h.2.2.2 c q
  rw [hc] at this; cases this
theorem melt_names {x : Melt} (h : meltB x = true) : nameB x.id = true ∧ ∀ a ∈ x.ingots, nameB a = true := by
  simp only [meltB, Bool.and_eq_true, decide_eq_true_eq] at h
  obtain ⟨h1, h2, h3, h4, h5⟩ := h
  refine ⟨h1, fun a ha => ?_⟩
  obtain ⟨i, hi, rfl⟩ := List.mem_iff_getElem.1 ha
  have := allK_true h4 i hi
  unfold stepB at this
  rw [List.getElem?_eq_getElem hi] at this
  simp only [Bool.and_eq_true] at this
  exact this.1
theorem melt_back {x : Melt} (h : meltB x = true) : meltR (meltT x) = some (mkMelt x.id x.ingots x.mass) := by
  have e : meltT x = x.id ++ ⟨#[32]⟩ ++ joinT 44 x.ingots ++ ⟨#[32]⟩ ++ decT x.mass := if_pos h
  obtain ⟨n1, n2⟩ := melt_names h
  obtain ⟨_, h1, h16, _, m1, m2⟩ := meltB_facts h
  have hp : partsS 32 (meltT x) = [x.id, joinT 44 x.ingots, decT x.mass] := by
    rw [e, ← joinT_three]
    refine parts_joinT 32 _ (by simp) fun y hy => ?_
    simp only [List.mem_cons, List.not_mem_nil, or_false] at hy
    rcases hy with rfl | rfl | rfl
    · exact nameB_no n1 (by decide)
    · exact joinT_free (by decide) _ fun z hz => nameB_no (n2 z hz) (by decide)
    · exact decT_free (by decide) (by decide)
  have hq : partsS 44 (joinT 44 x.ingots) = x.ingots := parts_joinT 44 _ (fun q => by rw [q] at h1; simp at h1) fun z hz => nameB_no (n2 z hz) (by decide)
  rw [meltR_yes hp (num_decT (by omega) (by omega)), hq]
  exact if_pos h
theorem melt_size {x : Melt} (h : meltB x = true) : (meltT x).size ≤ 1048576 := by
  have e : meltT x = x.id ++ ⟨#[32]⟩ ++ joinT 44 x.ingots ++ ⟨#[32]⟩ ++ decT x.mass := if_pos h
  obtain ⟨h0, h1, h16, h3, m1, m2⟩ := meltB_facts h
  have h4 := joinT_size 44 10 x.ingots h3
  have h5 := decT_size x.mass (by omega) (by omega)
  have h6 : (⟨#[32]⟩ : ByteArray).size = 1 := rfl
  rw [e]
  simp only [ByteArray.size_append]
  have : (1 + 10) * x.ingots.length ≤ 11 * 16 := Nat.mul_le_mul (by omega) h16
  omega
theorem words_refl (xs : List ByteArray) : wordsS xs xs = true := by
  unfold wordsS
  rw [Bool.and_eq_true, decide_eq_true_eq]
  refine ⟨rfl, allK_intro fun k hk => ?_⟩
  unfold atB
  rw [List.getElem?_eq_getElem hk]
  exact strEq_iff.2 rfl
theorem meltEq_said {x y : Melt} (h : x.said = y.said) : meltEq x y = true := by
  unfold Melt.said at h
  simp only [Prod.mk.injEq] at h
  obtain ⟨h1, h2, h3⟩ := h
  unfold meltEq
  rw [h1, h2, h3, strEq_iff.2 rfl, words_refl]
  simp
theorem same_said {xs ys : List Melt} (h : xs.map Melt.said = ys.map Melt.said) : sameMeltsS xs ys = true := by
  have hl := said_len h
  unfold sameMeltsS
  rw [Bool.and_eq_true, decide_eq_true_eq]
  refine ⟨hl, allK_intro fun k hk => ?_⟩
  unfold atB
  rw [List.getElem?_eq_getElem hk, List.getElem?_eq_getElem (show k < ys.length by omega)]
  refine meltEq_said ?_
  have h2 : (xs.map Melt.said)[k]? = (ys.map Melt.said)[k]? := by rw [h]
  simpa [List.getElem?_eq_getElem hk, List.getElem?_eq_getElem (show k < ys.length by omega)] using h2
theorem rdm_said {B : Nat} {w : World} {v : Value} {os zs : List Melt} (h : RdM B w v os) (hs : os.map Melt.said = zs.map Melt.said) : RdM B w v zs := by
  have hl := said_len hs
  obtain ⟨ao, cap, e, h1, h2, h3⟩ := h
  refine ⟨ao, cap, by rw [e, hl], by omega, h2, fun hp => ?_⟩
  obtain ⟨b, off, e2, hb, hc⟩ := h3 (by omega)
  refine ⟨b, off, e2, hb, fun k hk => ?_⟩
  obtain ⟨l, c0, c1, c2, hr⟩ := hc k (by omega)
  obtain ⟨s0, s1, s2⟩ := said_at hs k (by omega) hk
  exact ⟨l, by rw [s0]; exact c0, c1, by rw [s2]; exact c2, by rw [s1]; exact hr⟩
/-- what the law asks of a melt that was put in -/
theorem melts_law {xs : List Ingot} {ms : List Melt} {x : Melt} (h : (addM xs ms x).2 = 0) :
    (addM xs ms x).1 = insM x ms ∧ meltB x = true ∧ meltsB (insM x ms) = true ∧ dropS (insM x ms) x.id = (ms, 0) ∧ mostFromS xs x = (mostS xs x.ingots, 0) ∧ metalOfS xs x = (metalS xs x.ingots, 0) ∧ x.mass ≤ mostS xs x.ingots ∧ mostS xs x.ingots ≤ metalS xs x.ingots ∧ possibleS xs ms = possibleS xs (insM x ms) := by
  have hV : (validIngotS xs && (meltsB ms && meltB x)) = true := by
    cases q : (validIngotS xs && (meltsB ms && meltB x)) with
    | true => rfl
    | false => rw [addM_bad q] at h; simp at h
  have hE : (existB xs ms && (chosenL xs x.ingots).isSome) = true := by
    cases q : (existB xs ms && (chosenL xs x.ingots).isSome) with
    | true => rfl
    | false => rw [addM_no hV q] at h; simp at h
  have hm : ¬ mostS xs x.ingots < x.mass := fun q => by rw [addM_much hV hE q] at h; simp at h
  have hI : (idM ms x.id).isSome = false := by
    cases q : (idM ms x.id).isSome with
    | false => rfl
    | true => rw [addM_has hV hE hm q] at h; simp at h
  have hC : (ms.any fun y => commonB y.ingots x.ingots) = false := by
    cases q : (ms.any fun y => commonB y.ingots x.ingots) with
    | false => rfl
    | true => rw [addM_com hV hE hm hI q] at h; simp at h
  have h12 : ¬ ms.length = 12 := fun q => by rw [addM_full hV hE hm hI hC q] at h; simp at h
  have hok := addM_ok hV hE hm hI hC h12
  simp only [Bool.and_eq_true] at hV hE
  obtain ⟨v1, v2, v3⟩ := hV
  obtain ⟨e1, e2⟩ := hE
  have hN : idM ms x.id = none := by simpa using hI
  have hins := insM_valid v2 v3 hN hC h12
  obtain ⟨cs, hcs⟩ := Option.isSome_iff_exists.1 e2
  have ha : askS xs x = 0 := by unfold askS; rw [v1, v3, hcs]; rfl
  have hch := ask_choice2 (rises_of v1) v3 hcs
  obtain ⟨h16, hall⟩ := validIngotS_true v1
  have hmb := meltB_parts v3
  have hl : cs.length = x.ingots.length := chosen_len (Nat.le_refl _) (by rw [List.take_length]; exact hcs)
  have hbd := metal_bd h16 hall hch
  have hpos := mass_pos hall hch (chosen_pos v3 hcs)
  have hmo : mostS xs x.ingots ≤ metalS xs x.ingots := by
    rw [mostS_some hcs, metalS_some hcs]
    exact (most_pos ⟨hpos, hbd.2⟩).2
  have hmay : mayB xs x = true := by rw [mayB_some hcs, decide_eq_true_eq]; rw [mostS_some hcs] at hm; omega
  refine ⟨by rw [hok], v3, hins, ?_, if_pos ha, if_pos ha, by omega, hmo, ?_⟩
  · rw [drop_yes hins (ins_has x ms), drop_ins hN]
  · unfold possibleS
    rw [v2, hins, mayAll_ins hmay]
theorem melts_bad {xs : List Ingot} {ms : List Melt} {x : Melt} (h : (addM xs ms x).2 ≠ 0) : (addM xs ms x).1 = [] := by
  unfold addM at h ⊢
  repeat' split
  all_goals first
    | rfl
    | (exfalso; apply h; simp [*])
end Go.Proofs.YtnbodmbagendnaaGreatDoor
namespace Go.Proofs.YtnbodmbagendnaaGreatDoor
open Go.ChangeShapes Go.WideShapes Go.ChangeAt Go.RowKit Go.Deep Go.Joins
set_option linter.unusedVariables false
set_option maxRecDepth 100000
set_option linter.unusedSimpArgs false
theorem laid_tail {P : Program} {w : World} {x : String × DataW Unit} {rest : List (String × DataW Unit)} (h : laidMet P (x :: rest) w) : laidMet P rest w := by
  obtain ⟨ps, ⟨g, t, cs, fuel, p, q, _, _, _, _, hl, rfl⟩, hn, ha⟩ := h
  exact ⟨q, hl, (List.nodup_append.1 hn).2.1, fun b off hp => ha b off (List.mem_append_right _ hp)⟩
theorem gPow : Tryz.prog.globalNamed "internal/strconv.uint64pow10" = some 3 := by kernel_rfl
theorem pow_cells_u64 : Tryz.prog.cellsOf 65 = 1 := by kernel_rfl
theorem pow_cells : Tryz.prog.cellsOf 157 = 20 := by kernel_rfl
theorem pow10_of {W : World} {rest : List (String × DataW Unit)} (h : laidMet Tryz.prog (("internal/strconv.uint64pow10", Rows.laid_internal_strconv_uint64pow10) :: rest) W) : Pow10 W := by
  have e : (Rows.laid_internal_strconv_uint64pow10 : DataW Unit) = Lib.tabData .u64 Lib.pow10Tab := by kernel_rfl
  rw [e] at h
  exact Lib.tabIs_of_head (rest := rest) gPow (t := 157) (by kernel_rfl) Tryz.underlying157 Tryz.underlying65 pow_cells_u64 pow_cells h
end Go.Proofs.YtnbodmbagendnaaGreatDoor
namespace Go.Proofs.YtnbodmbagendnaaGreatDoor
open Go.ChangeShapes Go.WideShapes Go.ChangeAt Go.RowKit Go.Deep Go.Joins
set_option linter.unusedVariables false
set_option maxRecDepth 100000
set_option linter.unusedSimpArgs false
theorem gES : Tryz.prog.globalNamed "strconv.ErrSyntax" = some 1 := by kernel_rfl
theorem star_err : "*" ++ "errors.errorString" = "*errors.errorString" := by decide
theorem row_errS (u : TypeId) (h : Tryz.prog.typeName? 3 u = some "*errors.errorString") : u = 170 :=
  typeName_ptr_named (nm := "errors.errorString") (by rw [star_err]; kernel_rfl) (by kernel_rfl) (by decide) u (by rw [star_err]; exact h)
theorem errS_of {W : World} {text : List UInt8} {rest : List (String × DataW Unit)} (h : laidMet Tryz.prog (("strconv.ErrSyntax", .iface "*errors.errorString" (.ptr (.agg [.lit (.string text)]))) :: rest) W) : ErrS W := by
  obtain ⟨a0, s0, hv0, -, -, -⟩ := laid_sentinel h gES (by kernel_rfl) Tryz.underlying100 row_errS Tryz.underlying170 Tryz.underlying172 rfl rfl Tryz.underlying9 (by kernel_rfl) cells_str
  have h0 := World.var?_cell gES hv0 0
  exact ⟨_, by simpa using h0, Or.inr ⟨_, _, rfl⟩⟩
end Go.Proofs.YtnbodmbagendnaaGreatDoor
