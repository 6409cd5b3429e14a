/- Texts joined: both sides compute the same. -/
import Derived.Test.YtklgkbiobggbiaaDoorRows
import Derived.Test.YtklgkbiobggbiaaDoorDec
import Derived.Test.YtklgkbiobggbiaaDoorHString
import Derived.Shelf.Strings.OnBuilder
namespace Go.Proofs.YtklgkbiobggbiaaDoor
open Go.ChangeShapes Go.WideShapes Go.ChangeAt Go.RowKit Go.Deep Go.Joins
set_option linter.unusedVariables false
set_option maxRecDepth 100000
set_option linter.unusedSimpArgs false
def joinT (c : UInt8) (xs : List ByteArray) : ByteArray := ⟨(Lib.join (xs.map (·.data.toList)) [c]).toArray⟩
theorem ba_ext {a b : ByteArray} (h : a.data = b.data) : a = b := by cases a; cases b; cases h; rfl
theorem ba_nil (x : ByteArray) : (⟨#[]⟩ : ByteArray) ++ x = x := ba_ext (by rw [ByteArray.data_append]; simp)
theorem joinTail_snoc (s : List UInt8) (r : List (List UInt8)) (x : List UInt8) : Lib.joinTail s (r ++ [x]) = Lib.joinTail s r ++ (s ++ x) := by
  unfold Lib.joinTail; simp
theorem joinT_one (c : UInt8) (x : ByteArray) : joinT c [x] = x := by
  unfold joinT
  refine ba_ext ?_
  simp only [List.map_cons, List.map_nil, Lib.join_one, Array.toArray_toList]
theorem joinT_snoc (c : UInt8) (a : ByteArray) (r : List ByteArray) (x : ByteArray) : joinT c ((a :: r) ++ [x]) = joinT c (a :: r) ++ ⟨#[c]⟩ ++ x := by
  unfold joinT
  refine ba_ext ?_
  rw [ByteArray.data_append, ByteArray.data_append]
  simp only [List.map_cons, List.map_append, List.map_nil, List.cons_append, Lib.join_cons, joinTail_snoc]
  simp
theorem joinT_take0 (c : UInt8) (xs : List ByteArray) (h : 0 < xs.length) : joinT c (xs.take 1) = xs[0] := by
  rw [List.take_succ_eq_append_getElem h]
  exact joinT_one c xs[0]
theorem joinT_take (c : UInt8) (xs : List ByteArray) (k : Nat) (h0 : 0 < k) (h : k < xs.length) : joinT c (xs.take (k + 1)) = joinT c (xs.take k) ++ ⟨#[c]⟩ ++ xs[k] := by
  rw [List.take_succ_eq_append_getElem h]
  match hx : xs.take k with
  | [] => have := congrArg List.length hx; rw [List.length_take, List.length_nil] at this; omega
  | a :: r => exact joinT_snoc c a r xs[k]
theorem joinTail_len (s : List UInt8) (m : Nat) : ∀ r : List (List UInt8), (∀ x ∈ r, x.length ≤ m) → (Lib.joinTail s r).length ≤ (s.length + m) * r.length
  | [], _ => by simp [Lib.joinTail]
  | x :: r, h => by
    have ih := joinTail_len s m r (fun y hy => h y (List.mem_cons_of_mem _ hy))
    have hx := h x (List.mem_cons_self ..)
    unfold Lib.joinTail at ih ⊢
    simp only [List.map_cons, List.flatten_cons, List.length_append, List.length_cons]
    rw [Nat.mul_succ]
    omega
theorem joinT_size (c : UInt8) (m : Nat) (xs : List ByteArray) (h : ∀ x ∈ xs, x.size ≤ m) : (joinT c xs).size ≤ (1 + m) * xs.length := by
  have e : (joinT c xs).size = (Lib.join (xs.map (·.data.toList)) [c]).length := by unfold joinT ByteArray.size; simp
  rw [e]
  cases xs with
  | nil => simp [Lib.join, List.intercalate]
  | cons a r =>
    rw [List.map_cons, Lib.join_cons, List.length_append]
    have h1 := joinTail_len [c] m (r.map (·.data.toList)) (fun y hy => by
      obtain ⟨x, hx, rfl⟩ := List.mem_map.1 hy
      exact h x (List.mem_cons_of_mem _ hx))
    have h2 : a.data.toList.length ≤ m := h a (List.mem_cons_self ..)
    rw [List.length_map] at h1
    simp only [List.length_cons, List.length_nil, Nat.zero_add] at h1 ⊢
    rw [Nat.mul_succ]
    omega
theorem joinT_size_take (c : UInt8) (m : Nat) (xs : List ByteArray) (h : ∀ x ∈ xs, x.size ≤ m) (k : Nat) (hk : k ≤ xs.length) : (joinT c (xs.take k)).size ≤ (1 + m) * k := by
  have := joinT_size c m (xs.take k) (fun x hx => h x (List.mem_of_mem_take hx))
  rw [List.length_take, Nat.min_eq_left hk] at this
  exact this
def Tryd.layJoin_ren : Go.Shelf.Ren := ⟨fun | 156 => 53 | 165 => 91 | 166 => 92 | 169 => 93 | 240 => 120 | 241 => 121 | 276 => 141 | 277 => 142 | n => n, fun | 31 => 35 | 9 => 9 | 3 => 3 | 4 => 4 | 0 => 0 | 20 => 20 | 72 => 122 | 76 => 124 | 70 => 120 | 37 => 49 | 75 => 109 | 127 => 145 | 164 => 163 | 5 => 5 | 80 => 126 | n => n, fun | n => n⟩
theorem Tryd.layJoin : Go.Proofs.Lays.n156 Tryd.prog Tryd.layJoin_ren := {
  mixed := by kernel_rfl
  f156 := Tryd.func53.trans (congrArg some (by kernel_rfl))
  f165 := Tryd.func91.trans (congrArg some (by kernel_rfl))
  f166 := Tryd.func92.trans (congrArg some (by kernel_rfl))
  f169 := Tryd.func93.trans (congrArg some (by kernel_rfl))
  f240 := Tryd.func120.trans (congrArg some (by kernel_rfl))
  f241 := Tryd.func121.trans (congrArg some (by kernel_rfl))
  f276 := Tryd.func141.trans (congrArg some (by kernel_rfl))
  f277 := Tryd.func142.trans (congrArg some (by kernel_rfl))
  t0 := Tryd.underlying0
  a0 := Tryd.isAgg0
  z0 := Tryd.sizeOf0
  v0 := Tryd.zeroValue0
  t3 := Tryd.underlying3
  a3 := Tryd.isAgg3
  z3 := Tryd.sizeOf3
  v3 := Tryd.zeroValue3
  t4 := Tryd.underlying4
  a4 := Tryd.isAgg4
  z4 := Tryd.sizeOf4
  v4 := Tryd.zeroValue4
  t9 := Tryd.underlying9
  a9 := Tryd.isAgg9
  z9 := Tryd.sizeOf9
  v9 := Tryd.zeroValue9
  t20 := Tryd.underlying20
  a20 := Tryd.isAgg20
  z20 := Tryd.sizeOf20
  v20 := Tryd.zeroValue20
  t31 := Tryd.underlying35
  a31 := Tryd.isAgg35
  z31 := Tryd.sizeOf35
  v31 := Tryd.zeroValue35
  t37 := Tryd.underlying49
  a37 := Tryd.isAgg49
  z37 := Tryd.sizeOf49
  v37 := Tryd.zeroValue49
  t70 := Tryd.underlying120
  a70 := Tryd.isAgg120
  z70 := Tryd.sizeOf120
  v70 := Tryd.zeroValue120
  t72 := Tryd.underlying122
  a72 := Tryd.isAgg122
  z72 := Tryd.sizeOf122
  v72 := Tryd.zeroValue122
  t75 := Tryd.underlying109
  a75 := Tryd.isAgg109
  z75 := Tryd.sizeOf109
  v75 := Tryd.zeroValue109
  t76 := Tryd.underlying124
  a76 := Tryd.isAgg124
  z76 := Tryd.sizeOf124
  v76 := Tryd.zeroValue124
  t127 := Tryd.underlying145
  a127 := Tryd.isAgg145
  z127 := Tryd.sizeOf145
  v127 := Tryd.zeroValue145
  t164 := Tryd.underlying163
  a164 := Tryd.isAgg163
  z164 := Tryd.sizeOf163
  v164 := Tryd.zeroValue163 }
open Go.Shelf in
theorem extraJoin : Builder.Extra Tryd.prog Tryd.layJoin_ren where
  sizeBuilder := by kernel_rfl
  liesBuilder := by kernel_rfl
  t5 := Tryd.fmtInt.t5
  a5 := Tryd.fmtInt.a5
  z5 := Tryd.fmtInt.z5
  v5 := Tryd.fmtInt.v5
  infoByte := by kernel_rfl
  cellsByte := by kernel_rfl
  sizeByte := by kernel_rfl
  neB5 := by decide
theorem impl_join (c : UInt8) (w : World) (v : Value) (xs : List ByteArray) (h : Rd w.heap.size w v 1 xs.length (xs.flatMap putStr)) (h0 : 0 < xs.length) (hn : xs.length ≤ 1048576) (m : Nat) (hm : m ≤ 1000) (hs : ∀ x ∈ xs, x.size ≤ m) :
    Calls Tryd.prog 53 #[v, .string ⟨#[c]⟩] w fun e w' => e = .returned (.string (joinT c xs)) ∧ Below w.heap.size w w' := by
  obtain ⟨hL, ao, cap, rfl, hcap, hmax, hnil, hsome⟩ := h
  obtain ⟨b, off, rfl, hb, hc⟩ := hsome h0
  refine Any.strings_Join Tryd.layJoin extraJoin b off cap xs ⟨#[c]⟩ w (fun j x hx => ?_) hb (by omega) hcap ?_
  · have hj := (List.getElem?_eq_some_iff.1 hx).1
    rw [hc j (by omega), putStr_get xs j hj]
    have := (List.getElem?_eq_some_iff.1 hx).2
    rw [this]
  · have h1 := joinT_size c m xs hs
    have e : (joinT c xs).size = (Lib.join (xs.map (·.data.toList)) [c]).length := by unfold joinT ByteArray.size; simp
    have h2 : (1 + m) * xs.length ≤ 1001 * 1048576 := Nat.mul_le_mul (by omega) hn
    have e2 : (⟨#[c]⟩ : ByteArray).data.toList = [c] := rfl
    rw [e2]
    omega
end Go.Proofs.YtklgkbiobggbiaaDoor
