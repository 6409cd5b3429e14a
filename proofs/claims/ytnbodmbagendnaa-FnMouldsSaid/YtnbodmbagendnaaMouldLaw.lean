/- FnMoulds: a cavity and what is cast from it: the plain law. -/
import Derived.Test.YtnbodmbagendnaaRows
import Derived.Test.YtnbodmbagendnaaOneProfile
import Derived.Test.YtnbodmbagendnaaRound
import Derived.Test.YtnbodmbagendnaaDrying
namespace Go.Proofs.Ytnbodmbagendnaa
open Go.ChangeShapes Go.WideShapes Go.ChangeAt Go.RowKit Go.Deep Go.Joins
set_option linter.unusedVariables false
set_option maxRecDepth 100000
set_option linter.unusedSimpArgs false
def scR (num den : Int) (r : Ring) : Ring := ⟨divR (r.outer * num) den, divR (r.inner * num) den, divR (r.height * num) den⟩
theorem divR_nn {a b : Int} (ha : 0 ≤ a) : divR a b = (2 * a + b) / (2 * b) := by unfold divR; rw [if_neg (by omega)]
/-- enlarged and made smaller again -/
theorem back_one {v s : Int} (h0 : 0 ≤ v) (h1 : 0 ≤ s ∧ s ≤ 50) : divR (divR (v * (1000 + s)) 1000 * 1000) (1000 + s) = v := by
  have hp : 0 ≤ v * (1000 + s) := Int.mul_nonneg h0 (by omega)
  rw [divR_nn hp]
  obtain ⟨p, hp2⟩ : ∃ p, v * (1000 + s) = p := ⟨_, rfl⟩
  rw [hp2] at hp ⊢
  have hm : 0 ≤ (2 * p + 1000) / (2 * 1000) := by omega
  rw [divR_nn (by omega)]
  by_cases hs : s = 0
  · subst hs
    have : p = v * 1000 := by rw [← hp2]; rfl
    omega
  · have hq : v * (2 * (1000 + s)) = 2 * p := by rw [← hp2, Int.mul_left_comm]
    have hq2 : (v + 1) * (2 * (1000 + s)) = 2 * p + 2 * (1000 + s) := by rw [Int.add_mul, hq, Int.one_mul]
    have a1 : v ≤ (2 * ((2 * p + 1000) / (2 * 1000) * 1000) + (1000 + s)) / (2 * (1000 + s)) := Int.le_ediv_of_mul_le (by omega) (by rw [hq]; omega)
    have a2 : (2 * ((2 * p + 1000) / (2 * 1000) * 1000) + (1000 + s)) / (2 * (1000 + s)) < v + 1 := Int.ediv_lt_of_lt_mul (by omega) (by rw [hq2]; omega)
    omega
theorem up_one {v s : Int} (h0 : 0 ≤ v) (h1 : 0 ≤ s ∧ s ≤ 50) : v ≤ divR (v * (1000 + s)) 1000 := by
  have hp : v * 1000 ≤ v * (1000 + s) := Int.mul_le_mul_of_nonneg_left (by omega) h0
  rw [divR_nn (by omega)]
  generalize v * (1000 + s) = p at *
  omega
theorem up_bd {v s : Int} (h0 : 0 ≤ v ∧ v ≤ 300000) (h1 : 0 ≤ s ∧ s ≤ 50) : 0 ≤ v * (1000 + s) ∧ v * (1000 + s) ≤ 315000000 := by
  refine ⟨Int.mul_nonneg h0.1 (by omega), ?_⟩
  have := Int.mul_le_mul h0.2 (show 1000 + s ≤ 1050 by omega) (by omega) (by omega)
  omega
theorem back_ring {r : Ring} (h : ringB r = true) {s : Int} (h1 : 0 ≤ s ∧ s ≤ 50) : scR 1000 (1000 + s) (scR (1000 + s) 1000 r) = r := by
  have hn := ringB_nums h
  unfold scR
  rw [back_one (by omega) h1, back_one (by omega) h1, back_one (by omega) h1]
theorem back_rings {rs : List Ring} (h : ∀ r ∈ rs, ringB r = true) {s : Int} (h1 : 0 ≤ s ∧ s ≤ 50) : (rs.map (scR (1000 + s) 1000)).map (scR 1000 (1000 + s)) = rs := by
  rw [List.map_map]
  conv => rhs; rw [← List.map_id rs]
  exact List.map_congr_left fun r hr => back_ring (h r hr) h1
theorem up_height {s : Int} (h1 : 0 ≤ s ∧ s ≤ 50) : ∀ (rs : List Ring), (∀ r ∈ rs, ringB r = true) → heightS rs ≤ heightS (rs.map (scR (1000 + s) 1000))
  | [], _ => Int.le_refl _
  | r :: rs, h => by
    have ih := up_height h1 rs fun x hx => h x (List.mem_cons_of_mem _ hx)
    have hn := ringB_nums (h r (List.mem_cons_self ..))
    have := up_one (v := r.height) (by omega) h1
    unfold heightS at *
    simp only [List.map_cons, List.sum_cons]
    show r.height + _ ≤ (scR (1000 + s) 1000 r).height + _
    have e : (scR (1000 + s) 1000 r).height = divR (r.height * (1000 + s)) 1000 := rfl
    rw [e]
    omega
theorem drySum_ge {p : Int} (hp : 1 ≤ p) : ∀ k : Nat, (k : Int) ≤ drySum p k
  | 0 => Int.le_refl _
  | k + 1 => by
    have ih := drySum_ge hp k
    rw [drySum_succ]
    have : 1 * 1 ≤ p * ((k : Int) + 1) := Int.mul_le_mul hp (by omega) (by omega) (by omega)
    push_cast
    omega
theorem drySum_mono {p q : Int} (hp : p ≤ q) : ∀ k : Nat, drySum p k ≤ drySum q k
  | 0 => Int.le_refl _
  | k + 1 => by
    have ih := drySum_mono hp k
    rw [drySum_succ, drySum_succ]
    have := Int.mul_le_mul_of_nonneg_right hp (show 0 ≤ (k : Int) + 1 by omega)
    omega
/-- layers of a wall, and how long they dry -/
theorem dry_law {wall q : Int} (h1 : 1 ≤ wall ∧ wall ≤ 9000) (hq : 1 ≤ q ∧ q ≤ 30) (hl : 1 + wall / q ≤ wall) :
    ∃ n, layersS wall (1 + wall / q) = (n, 0) ∧ wall ≤ n * (1 + wall / q) ∧ (n - 1) * (1 + wall / q) < wall ∧ dryS wall (1 + wall / q) 5 10 = (drySum 550 n.toNat, 0) ∧ dryS wall (1 + wall / q) 5 60 = (drySum 800 n.toNat, 0) ∧ n ≤ drySum 550 n.toNat ∧ drySum 550 n.toNat ≤ drySum 800 n.toNat ∧ 1 ≤ n ∧ n ≤ 40 := by
  have hd0 : 0 ≤ wall / q := Int.ediv_nonneg (by omega) (by omega)
  have hlt : wall < (wall / q + 1) * q := by
    have := Int.lt_ediv_add_one_mul_self wall (show 0 < q by omega)
    exact this
  obtain ⟨L, hL⟩ : ∃ L, 1 + wall / q = L := ⟨_, rfl⟩
  have hlt2 : wall < L * q := by rw [← hL, Int.add_comm]; exact hlt
  rw [hL] at hl ⊢
  have hL1 : 1 ≤ L := by omega
  obtain ⟨n, hn⟩ : ∃ n, (wall + L - 1) / L = n := ⟨_, rfl⟩
  have hm := Int.mul_ediv_add_emod (wall + L - 1) L
  have hr0 := Int.emod_nonneg (wall + L - 1) (show L ≠ 0 by omega)
  have hr1 := Int.emod_lt_of_pos (wall + L - 1) (show 0 < L by omega)
  rw [hn] at hm
  have hnq : n < q + 1 := by
    rw [← hn]
    refine Int.ediv_lt_of_lt_mul (by omega) ?_
    rw [Int.add_mul, Int.one_mul, Int.mul_comm q L]
    omega
  have hn1 : 1 ≤ n := by rw [← hn]; exact Int.le_ediv_of_mul_le (by omega) (by omega)
  have e1 : layersS wall L = (n, 0) := by
    unfold layersS
    rw [inB_mk ⟨by omega, by omega⟩, inB_mk ⟨hL1, hl⟩, hn]
    exact (if_pos rfl).trans (if_neg (by omega))
  have e3 : (n - 1) * L = L * n - L := by rw [Int.sub_mul, Int.one_mul, Int.mul_comm]
  have e4 : n * L = L * n := Int.mul_comm _ _
  have d : ∀ u, 0 ≤ u ∧ u ≤ 100 → dryS wall L 5 u = (drySum (5 * (100 + u)) n.toNat, 0) := by
    intro u hu
    have b1 : inB wall 1 150000 = true := inB_mk ⟨by omega, by omega⟩
    have b2 : inB L 1 wall = true := inB_mk ⟨hL1, hl⟩
    have b3 : inB 5 1 100000 = true := by decide
    unfold dryS
    rw [b1, b2, b3, inB_mk hu, hn]
    exact (if_pos rfl).trans (if_neg (by omega))
  refine ⟨n, e1, by rw [e4]; omega, by rw [e3]; omega, d 10 (by omega), d 60 (by omega), ?_, drySum_mono (by omega) _, hn1, by omega⟩
  have := drySum_ge (p := 550) (by omega) n.toNat
  omega
end Go.Proofs.Ytnbodmbagendnaa
