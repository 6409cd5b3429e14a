/- Contracts and plain facts, joined: RawL. -/
import Derived.Test.YtcjekailcljaaaaGreatRows
import Derived.Test.YtcjekailcljaaaaGreatZFnExactGreedyPlanL
import Derived.Test.YtcjekailcljaaaaGreatZFnExactGreedyPlanX
import Derived.Test.YtcjekailcljaaaaGreatZFnExactGreedyPlanY
namespace Go.Proofs.YtcjekailcljaaaaGreat
open Go.ChangeShapes Go.WideShapes Go.ChangeAt Go.RowKit Go.Deep Go.Joins
set_option linter.unusedVariables false
set_option maxRecDepth 100000
set_option linter.unusedSimpArgs false
def wallR (r : Ring) : Int := r.outer - r.inner
/-- the walls of d rings from ring a on -/
def sumW (rs : List Ring) (a : Nat) : Nat → Int
  | 0 => 0
  | d + 1 => sumW rs a d + (match rs[a + d]? with | some r => wallR r | none => 0)
theorem sumW_succ {rs : List Ring} {a d : Nat} (h : a + d < rs.length) : sumW rs a (d + 1) = sumW rs a d + wallR rs[a + d] := by
  show sumW rs a d + (match rs[a + d]? with | some r => wallR r | none => 0) = _
  rw [List.getElem?_eq_getElem h]
theorem sumW_bd {rs : List Ring} (hv : ∀ r ∈ rs, ringB r = true) (a : Nat) : ∀ d, a + d ≤ rs.length → 0 ≤ sumW rs a d ∧ sumW rs a d ≤ d * 150000
  | 0, _ => by simp [sumW]
  | d + 1, h => by
    have ih := sumW_bd hv a d (by omega)
    have hr := ringB_nums (hv rs[a + d] (List.getElem_mem (by omega)))
    rw [sumW_succ (by omega)]
    unfold wallR
    push_cast; omega
def wallZ (rs : List Ring) (zs : List Int) (z : Nat) : Int := divR (sumW rs (bndZ zs rs.length z) (bndZ zs rs.length (z + 1) - bndZ zs rs.length z)) ((bndZ zs rs.length (z + 1) - bndZ zs rs.length z : Nat) : Int)
def wallsZ (rs : List Ring) (zs : List Int) : List Int := (List.range zs.length).map (wallZ rs zs)
theorem wallsZ_len (rs : List Ring) (zs : List Int) : (wallsZ rs zs).length = zs.length := by unfold wallsZ; simp
theorem wallsZ_at {rs : List Ring} {zs : List Int} {z : Nat} (h : z < (wallsZ rs zs).length) : (wallsZ rs zs)[z] = wallZ rs zs z := by simp only [wallsZ, List.getElem_map, List.getElem_range]
theorem divR_bd {a b m : Int} (hb : 0 < b) (h0 : 0 ≤ a) (h1 : a ≤ m * b) (hm : 0 ≤ m) : 0 ≤ divR a b ∧ divR a b ≤ m := by
  unfold divR
  rw [if_neg (by omega)]
  refine ⟨Int.ediv_nonneg (by omega) (by omega), ?_⟩
  have : (2 * a + b) / (2 * b) < m + 1 := by
    apply Int.ediv_lt_of_lt_mul (by omega)
    have e : (m + 1) * (2 * b) = 2 * (m * b) + 2 * b := by grind
    omega
  omega
theorem wallZ_bd {rs : List Ring} {zs : List Int} (hv : ∀ r ∈ rs, ringB r = true) (hz : zonesB rs.length zs = true) {z : Nat} (h : z < zs.length) : 0 ≤ wallZ rs zs z ∧ wallZ rs zs z ≤ 150000 := by
  obtain ⟨_, f2, f3, _, _⟩ := zone_facts hz h
  have hb := sumW_bd hv (bndZ zs rs.length z) (bndZ zs rs.length (z + 1) - bndZ zs rs.length z) (by omega)
  unfold wallZ
  exact divR_bd (by omega) hb.1 (by omega) (by omega)
/-- the weighted walls of the first k zones -/
def momK (row walls : List Int) : Nat → Int
  | 0 => 0
  | k + 1 => momK row walls k + row.getD k 0 * walls.getD k 0
theorem getD_at {xs : List Int} {k : Nat} (h : k < xs.length) : xs.getD k 0 = xs[k] := by rw [List.getD_eq_getElem?_getD, List.getElem?_eq_getElem h]; rfl
theorem momK_succ {row walls : List Int} {k : Nat} (h1 : k < row.length) (h2 : k < walls.length) : momK row walls (k + 1) = momK row walls k + row[k] * walls[k] := by
  show momK row walls k + row.getD k 0 * walls.getD k 0 = _
  rw [getD_at h1, getD_at h2]
theorem mul_bd {x y : Int} (hx : 0 ≤ x ∧ x ≤ 1000) (hy : 0 ≤ y ∧ y ≤ 150000) : 0 ≤ x * y ∧ x * y ≤ 150000000 := by
  refine ⟨Int.mul_nonneg hx.1 hy.1, ?_⟩
  have := Int.mul_le_mul hx.2 hy.2 hy.1 (by decide)
  omega
theorem momK_bd {row walls : List Int} (hr : ∀ x ∈ row, 0 ≤ x ∧ x ≤ 1000) (hw : ∀ x ∈ walls, 0 ≤ x ∧ x ≤ 150000) : ∀ k, k ≤ row.length → k ≤ walls.length → 0 ≤ momK row walls k ∧ momK row walls k ≤ k * 150000000
  | 0, _, _ => by simp [momK]
  | k + 1, h1, h2 => by
    have ih := momK_bd hr hw k (by omega) (by omega)
    rw [momK_succ (by omega) (by omega)]
    have := mul_bd (hr row[k] (List.getElem_mem (by omega))) (hw walls[k] (List.getElem_mem (by omega)))
    push_cast; omega
def areaZ2 (rs : List Ring) : Int := divR ((2 * (rs.headD ⟨0, 0, 0⟩).outer) * (2 * (rs.headD ⟨0, 0, 0⟩).outer)) 1000000
theorem head_at {rs : List Ring} (h : 0 < rs.length) : rs.headD ⟨0, 0, 0⟩ = rs[0] := by
  cases rs with
  | nil => simp at h
  | cons x xs => rfl
theorem lip_bd {o : Int} (h : 500 ≤ o ∧ o ≤ 150000) : 1000000 ≤ (2 * o) * (2 * o) ∧ (2 * o) * (2 * o) ≤ 90000000000 := by
  have h1 := Int.mul_le_mul (a := 1000) (b := 1000) (c := 2 * o) (d := 2 * o) (by omega) (by omega) (by omega) (by omega)
  have h2 := Int.mul_le_mul (a := 2 * o) (b := 2 * o) (c := 300000) (d := 300000) (by omega) (by omega) (by omega) (by omega)
  omega
theorem areaZ2_bd {rs : List Ring} (hv : ∀ r ∈ rs, ringB r = true) (h1 : 1 ≤ rs.length) : 1 ≤ areaZ2 rs ∧ areaZ2 rs ≤ 90000 := by
  have hr := ringB_nums (hv rs[0] (List.getElem_mem (by omega)))
  have hb := lip_bd hr.1
  unfold areaZ2
  rw [head_at (by omega)]
  generalize (2 * rs[0].outer) * (2 * rs[0].outer) = A at *
  refine ⟨?_, (divR_bd (by decide) (by omega) (by omega) (by decide)).2⟩
  unfold divR
  rw [if_neg (by omega)]
  have : (1 : Int) ≤ (2 * A + 1000000) / (2 * 1000000) := by
    apply Int.le_ediv_of_mul_le (by decide); omega
  exact this
def rawK (m : Mdl) (rs : List Ring) (k : Nat) : Int := divR (m.base.getD k 0 * momK (m.rows.getD k []) (wallsZ rs m.zones) m.zones.length) (areaZ2 rs)
def rawZ (m : Mdl) (rs : List Ring) : List Int := (List.range 5).map (rawK m rs)
theorem rawZ_len (m : Mdl) (rs : List Ring) : (rawZ m rs).length = 5 := by simp [rawZ]
theorem rawZ_at {m : Mdl} {rs : List Ring} {k : Nat} (h : k < (rawZ m rs).length) : (rawZ m rs)[k] = rawK m rs k := by simp only [rawZ, List.getElem_map, List.getElem_range]
/-- facts of a model's row -/
theorem mdl_row {m : Mdl} (h : mdlB m = true) {k : Nat} (hk : k < 5) : ∃ (h1 : k < m.rows.length) (h2 : k < m.base.length), m.rows[k].length = m.zones.length ∧ (∀ x ∈ m.rows[k], 0 ≤ x ∧ x ≤ 1000) ∧ (1 ≤ m.base[k] ∧ m.base[k] ≤ 1000000000) ∧ m.rows.getD k [] = m.rows[k] ∧ m.base.getD k 0 = m.base[k] := by
  obtain ⟨_, hr, hb, hall⟩ := mdlB_parts h
  have h1 : k < m.rows.length := by omega
  have h2 : k < m.base.length := by omega
  have := allK_true hall k hk
  rw [mdlK_at h1 h2, Bool.and_eq_true] at this
  obtain ⟨p1, p2, _⟩ := rowB_parts this.2
  exact ⟨h1, h2, p1, p2, inB_true this.1, by rw [List.getD_eq_getElem?_getD, List.getElem?_eq_getElem h1]; rfl, getD_at h2⟩
theorem walls_bd {rs : List Ring} {zs : List Int} (hv : ∀ r ∈ rs, ringB r = true) (hz : zonesB rs.length zs = true) : ∀ x ∈ wallsZ rs zs, 0 ≤ x ∧ x ≤ 150000 := fun x hx => by
  unfold wallsZ at hx
  obtain ⟨z, hz2, rfl⟩ := List.mem_map.1 hx
  exact wallZ_bd hv hz (List.mem_range.1 hz2)
theorem bm_bd {b m : Int} (hb : 1 ≤ b ∧ b ≤ 1000000000) (hm : 0 ≤ m ∧ m ≤ 1200000000) : 0 ≤ b * m ∧ b * m ≤ 1200000000000000000 := by
  refine ⟨Int.mul_nonneg (by omega) hm.1, ?_⟩
  have := Int.mul_le_mul hb.2 hm.2 hm.1 (by decide)
  omega
theorem spec_divZ (a b : Int) (w : World) (hb : 0 < b) (hb2 : b ≤ 1000000000000000000) (ha : 0 ≤ a) (ha2 : a ≤ 4000000000000000000) :
    Calls Tryz.prog 68 #[.int .i64 a, .int .i64 b] w fun e w' => e = .returned (.int .i64 (divR a b)) ∧ w = w' := by
  unfold divR
  have h : ¬ a < 0 := by omega
  rw [if_neg h]
  go_enter Tryz.func68, Tryz.ntmps68
  go_wp2
  go_ret
  exact ⟨rfl, rfl⟩
theorem impl_divZ (a b : Int) (w : World) (hb : 0 < b) (hb2 : b ≤ 1000000000000000000) (ha : 0 ≤ a) (ha2 : a ≤ 4000000000000000000) :
    Calls Tryz.prog 113 #[.int .i64 a, .int .i64 b] w fun e w' => e = .returned (.int .i64 (divR a b)) ∧ Drew w w' := by
  have h : ¬ a < 0 := by omega
  rw [divR_pos a b hb (by omega)]
  have h1 : 0 ≤ a / b := Int.ediv_nonneg (by omega) (by omega)
  have h2 : 0 ≤ a % b := Int.emod_nonneg _ (by omega)
  have h3 : a % b < b := Int.emod_lt_of_pos _ hb
  have h4 : a / b ≤ a := Int.ediv_le_self _ (by omega)
  have d1 : decide (a < 0) = false := by simpa using h
  have d2 : decide (b < 0) = false := by simp; omega
  clear h
  by_cases h5 : b - a % b ≤ a % b
  all_goals
    simp only [h5, if_true, if_false]
    go_enter Tryz.func113, Tryz.ntmps113
    go_wp2
    go_quiet ((go_at_call 96; exact quietE (impl_abs_pos _ _ (by omega))))
    go_wp2
    all_goals go_ret
    all_goals exact ⟨rfl, _, rfl⟩
end Go.Proofs.YtcjekailcljaaaaGreat
