/- Contracts and plain facts, joined: HString, Join. -/
import Derived.Test.YtockglfoeagahaaGreatDoorRows
import Derived.Test.YtockglfoeagahaaGreatDoorZFnWarbleB
import Derived.Test.YtockglfoeagahaaGreatDoorZFnWarbleX
import Derived.Shelf.Strings.OnBuilder
namespace Go.Proofs.YtockglfoeagahaaGreatDoor
open Go.ChangeShapes Go.WideShapes Go.ChangeAt Go.RowKit Go.Deep Go.Joins
set_option linter.unusedVariables false
set_option maxRecDepth 100000
set_option linter.unusedSimpArgs false
theorem putStr_len (xs : List ByteArray) : (xs.flatMap putStr).length = xs.length * 1 := flat_len xs (fun _ _ => rfl)
theorem putStr_get (xs : List ByteArray) (k : Nat) (h : k < xs.length) : (xs.flatMap putStr)[k]? = some (.string xs[k]) := by
  have := flat_get (f := putStr) (s := 1) xs (fun _ _ => rfl) (j := 0) (by omega) k
  simp only [Nat.mul_one, Nat.add_zero] at this
  rw [this, List.getElem?_eq_getElem h]
  rfl
theorem info_str : (Tryz.prog.info? 9).map (fun i => (i.zero, i.size, i.bytes)) = some (some (.string ByteArray.empty), 1, 16) := by kernel_rfl

def wtStr (xs : List ByteArray) : Nat := (xs.map fun x => x.size).sum
theorem wtStr_succ (xs : List ByteArray) (k : Nat) (h : k < xs.length) : wtStr (xs.take (k + 1)) = wtStr (xs.take k) + xs[k].size := by
  unfold wtStr
  rw [List.take_succ_eq_append_getElem h, List.map_append, List.sum_append]
  simp only [List.map_cons, List.map_nil, List.sum_cons, List.sum_nil, Nat.add_zero]
theorem wtStr_le (xs : List ByteArray) (k : Nat) : wtStr (xs.take k) ≤ wtStr xs := by
  have h : wtStr xs = wtStr (xs.take k) + wtStr (xs.drop k) := by
    unfold wtStr
    rw [← List.sum_append, ← List.map_append, List.take_append_drop]
  omega
end Go.Proofs.YtockglfoeagahaaGreatDoor
namespace Go.Proofs.YtockglfoeagahaaGreatDoor
open Go.ChangeShapes Go.WideShapes Go.ChangeAt Go.RowKit Go.Deep Go.Joins
set_option linter.unusedVariables false
set_option maxRecDepth 100000
set_option linter.unusedSimpArgs false
def joinT (c : UInt8) (xs : List ByteArray) : ByteArray := ⟨(Lib.join (xs.map (·.data.toList)) [c]).toArray⟩
theorem ba_ext {a b : ByteArray} (h : a.data = b.data) : a = b := by cases a; cases b; cases h; rfl
theorem ba_nil (x : ByteArray) : (⟨#[]⟩ : ByteArray) ++ x = x := ba_ext (by rw [ByteArray.data_append]; simp)
theorem joinTail_snoc (s : List UInt8) (r : List (List UInt8)) (x : List UInt8) : Lib.joinTail s (r ++ [x]) = Lib.joinTail s r ++ (s ++ x) := by
  unfold Lib.joinTail; simp
theorem joinT_one (c : UInt8) (x : ByteArray) : joinT c [x] = x := by
  unfold joinT
  refine ba_ext ?_
  simp only [List.map_cons, List.map_nil, Lib.join_one, Array.toArray_toList]
theorem joinT_snoc (c : UInt8) (a : ByteArray) (r : List ByteArray) (x : ByteArray) : joinT c ((a :: r) ++ [x]) = joinT c (a :: r) ++ ⟨#[c]⟩ ++ x := by
  unfold joinT
  refine ba_ext ?_
  rw [ByteArray.data_append, ByteArray.data_append]
  simp only [List.map_cons, List.map_append, List.map_nil, List.cons_append, Lib.join_cons, joinTail_snoc]
  simp
theorem joinT_take0 (c : UInt8) (xs : List ByteArray) (h : 0 < xs.length) : joinT c (xs.take 1) = xs[0] := by
  rw [List.take_succ_eq_append_getElem h]
  exact joinT_one c xs[0]
theorem joinT_take (c : UInt8) (xs : List ByteArray) (k : Nat) (h0 : 0 < k) (h : k < xs.length) : joinT c (xs.take (k + 1)) = joinT c (xs.take k) ++ ⟨#[c]⟩ ++ xs[k] := by
  rw [List.take_succ_eq_append_getElem h]
  match hx : xs.take k with
  | [] => have := congrArg List.length hx; rw [List.length_take, List.length_nil] at this; omega
  | a :: r => exact joinT_snoc c a r xs[k]
theorem joinTail_len (s : List UInt8) (m : Nat) : ∀ r : List (List UInt8), (∀ x ∈ r, x.length ≤ m) → (Lib.joinTail s r).length ≤ (s.length + m) * r.length
  | [], _ => by simp [Lib.joinTail]
  | x :: r, h => by
    have ih := joinTail_len s m r (fun y hy => h y (List.mem_cons_of_mem _ hy))
    have hx := h x (List.mem_cons_self ..)
    unfold Lib.joinTail at ih ⊢
    simp only [List.map_cons, List.flatten_cons, List.length_append, List.length_cons]
    rw [Nat.mul_succ]
    omega
theorem joinT_size (c : UInt8) (m : Nat) (xs : List ByteArray) (h : ∀ x ∈ xs, x.size ≤ m) : (joinT c xs).size ≤ (1 + m) * xs.length := by
  have e : (joinT c xs).size = (Lib.join (xs.map (·.data.toList)) [c]).length := by unfold joinT ByteArray.size; simp
  rw [e]
  cases xs with
  | nil => simp [Lib.join, List.intercalate]
  | cons a r =>
    rw [List.map_cons, Lib.join_cons, List.length_append]
    have h1 := joinTail_len [c] m (r.map (·.data.toList)) (fun y hy => by
      obtain ⟨x, hx, rfl⟩ := List.mem_map.1 hy
      exact h x (List.mem_cons_of_mem _ hx))
    have h2 : a.data.toList.length ≤ m := h a (List.mem_cons_self ..)
    rw [List.length_map] at h1
    simp only [List.length_cons, List.length_nil, Nat.zero_add] at h1 ⊢
    rw [Nat.mul_succ]
    omega
theorem joinT_size_take (c : UInt8) (m : Nat) (xs : List ByteArray) (h : ∀ x ∈ xs, x.size ≤ m) (k : Nat) (hk : k ≤ xs.length) : (joinT c (xs.take k)).size ≤ (1 + m) * k := by
  have := joinT_size c m (xs.take k) (fun x hx => h x (List.mem_of_mem_take hx))
  rw [List.length_take, Nat.min_eq_left hk] at this
  exact this
def Tryz.layJoin_ren : Go.Shelf.Ren := ⟨fun | 156 => 42 | 165 => 58 | 166 => 59 | 169 => 60 | 240 => 87 | 241 => 88 | 276 => 114 | 277 => 115 | n => n, fun | 31 => 62 | 9 => 9 | 3 => 3 | 4 => 4 | 0 => 0 | 20 => 20 | 72 => 91 | 76 => 93 | 70 => 89 | 37 => 22 | 75 => 85 | 127 => 112 | 164 => 137 | 5 => 5 | 80 => 95 | n => n, fun | n => n⟩
theorem Tryz.layJoin : Go.Proofs.Lays.n156 Tryz.prog Tryz.layJoin_ren := {
  mixed := by kernel_rfl
  f156 := Tryz.func42.trans (congrArg some (by kernel_rfl))
  f165 := Tryz.func58.trans (congrArg some (by kernel_rfl))
  f166 := Tryz.func59.trans (congrArg some (by kernel_rfl))
  f169 := Tryz.func60.trans (congrArg some (by kernel_rfl))
  f240 := Tryz.func87.trans (congrArg some (by kernel_rfl))
  f241 := Tryz.func88.trans (congrArg some (by kernel_rfl))
  f276 := Tryz.func114.trans (congrArg some (by kernel_rfl))
  f277 := Tryz.func115.trans (congrArg some (by kernel_rfl))
  t0 := Tryz.underlying0
  a0 := Tryz.isAgg0
  z0 := Tryz.sizeOf0
  v0 := Tryz.zeroValue0
  t3 := Tryz.underlying3
  a3 := Tryz.isAgg3
  z3 := Tryz.sizeOf3
  v3 := Tryz.zeroValue3
  t4 := Tryz.underlying4
  a4 := Tryz.isAgg4
  z4 := Tryz.sizeOf4
  v4 := Tryz.zeroValue4
  t9 := Tryz.underlying9
  a9 := Tryz.isAgg9
  z9 := Tryz.sizeOf9
  v9 := Tryz.zeroValue9
  t20 := Tryz.underlying20
  a20 := Tryz.isAgg20
  z20 := Tryz.sizeOf20
  v20 := Tryz.zeroValue20
  t31 := Tryz.underlying62
  a31 := Tryz.isAgg62
  z31 := Tryz.sizeOf62
  v31 := Tryz.zeroValue62
  t37 := Tryz.underlying22
  a37 := Tryz.isAgg22
  z37 := Tryz.sizeOf22
  v37 := Tryz.zeroValue22
  t70 := Tryz.underlying89
  a70 := Tryz.isAgg89
  z70 := Tryz.sizeOf89
  v70 := Tryz.zeroValue89
  t72 := Tryz.underlying91
  a72 := Tryz.isAgg91
  z72 := Tryz.sizeOf91
  v72 := Tryz.zeroValue91
  t75 := Tryz.underlying85
  a75 := Tryz.isAgg85
  z75 := Tryz.sizeOf85
  v75 := Tryz.zeroValue85
  t76 := Tryz.underlying93
  a76 := Tryz.isAgg93
  z76 := Tryz.sizeOf93
  v76 := Tryz.zeroValue93
  t127 := Tryz.underlying112
  a127 := Tryz.isAgg112
  z127 := Tryz.sizeOf112
  v127 := Tryz.zeroValue112
  t164 := Tryz.underlying137
  a164 := Tryz.isAgg137
  z164 := Tryz.sizeOf137
  v164 := Tryz.zeroValue137 }
open Go.Shelf in
theorem extraJoin : Builder.Extra Tryz.prog Tryz.layJoin_ren where
  sizeBuilder := by kernel_rfl
  liesBuilder := by kernel_rfl
  t5 := Tryz.fmtInt.t5
  a5 := Tryz.fmtInt.a5
  z5 := Tryz.fmtInt.z5
  v5 := Tryz.fmtInt.v5
  infoByte := by kernel_rfl
  cellsByte := by kernel_rfl
  sizeByte := by kernel_rfl
  neB5 := by decide
theorem impl_join (c : UInt8) (w : World) (v : Value) (xs : List ByteArray) (h : Rd w.heap.size w v 1 xs.length (xs.flatMap putStr)) (h0 : 0 < xs.length) (hn : xs.length ≤ 1048576) (m : Nat) (hm : m ≤ 1000) (hs : ∀ x ∈ xs, x.size ≤ m) :
    Calls Tryz.prog 42 #[v, .string ⟨#[c]⟩] w fun e w' => e = .returned (.string (joinT c xs)) ∧ Below w.heap.size w w' := by
  obtain ⟨hL, ao, cap, rfl, hcap, hmax, hnil, hsome⟩ := h
  obtain ⟨b, off, rfl, hb, hc⟩ := hsome h0
  refine Any.strings_Join Tryz.layJoin extraJoin b off cap xs ⟨#[c]⟩ w (fun j x hx => ?_) hb (by omega) hcap ?_
  · have hj := (List.getElem?_eq_some_iff.1 hx).1
    rw [hc j (by omega), putStr_get xs j hj]
    have := (List.getElem?_eq_some_iff.1 hx).2
    rw [this]
  · have h1 := joinT_size c m xs hs
    have e : (joinT c xs).size = (Lib.join (xs.map (·.data.toList)) [c]).length := by unfold joinT ByteArray.size; simp
    have h2 : (1 + m) * xs.length ≤ 1001 * 1048576 := Nat.mul_le_mul (by omega) hn
    have e2 : (⟨#[c]⟩ : ByteArray).data.toList = [c] := rfl
    rw [e2]
    omega
end Go.Proofs.YtockglfoeagahaaGreatDoor
