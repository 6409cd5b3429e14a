/- Contracts and plain facts, joined: Join, MeltTx. -/
import Derived.Test.YtnbodmbagendnaaGreatDoorRows
import Derived.Test.YtnbodmbagendnaaGreatDoorZFnMeltsC
import Derived.Test.YtnbodmbagendnaaGreatDoorZFnMeltsK
import Derived.Test.YtnbodmbagendnaaGreatDoorZFnMeltsP
import Derived.Test.YtnbodmbagendnaaGreatDoorZFnMeltsZK
import Derived.Shelf.Strings.OnBuilder
namespace Go.Proofs.YtnbodmbagendnaaGreatDoor
open Go.ChangeShapes Go.WideShapes Go.ChangeAt Go.RowKit Go.Deep Go.Joins
set_option linter.unusedVariables false
set_option maxRecDepth 100000
set_option linter.unusedSimpArgs false
def joinT (c : UInt8) (xs : List ByteArray) : ByteArray := ⟨(Lib.join (xs.map (·.data.toList)) [c]).toArray⟩
theorem ba_ext {a b : ByteArray} (h : a.data = b.data) : a = b := by cases a; cases b; cases h; rfl
theorem ba_nil (x : ByteArray) : (⟨#[]⟩ : ByteArray) ++ x = x := ba_ext (by rw [ByteArray.data_append]; simp)
theorem joinTail_snoc (s : List UInt8) (r : List (List UInt8)) (x : List UInt8) : Lib.joinTail s (r ++ [x]) = Lib.joinTail s r ++ (s ++ x) := by
  unfold Lib.joinTail; simp
theorem joinT_one (c : UInt8) (x : ByteArray) : joinT c [x] = x := by
  unfold joinT
  refine ba_ext ?_
  simp only [List.map_cons, List.map_nil, Lib.join_one, Array.toArray_toList]
theorem joinT_snoc (c : UInt8) (a : ByteArray) (r : List ByteArray) (x : ByteArray) : joinT c ((a :: r) ++ [x]) = joinT c (a :: r) ++ ⟨#[c]⟩ ++ x := by
  unfold joinT
  refine ba_ext ?_
  rw [ByteArray.data_append, ByteArray.data_append]
  simp only [List.map_cons, List.map_append, List.map_nil, List.cons_append, Lib.join_cons, joinTail_snoc]
  simp
theorem joinT_take0 (c : UInt8) (xs : List ByteArray) (h : 0 < xs.length) : joinT c (xs.take 1) = xs[0] := by
  rw [List.take_succ_eq_append_getElem h]
  exact joinT_one c xs[0]
theorem joinT_take (c : UInt8) (xs : List ByteArray) (k : Nat) (h0 : 0 < k) (h : k < xs.length) : joinT c (xs.take (k + 1)) = joinT c (xs.take k) ++ ⟨#[c]⟩ ++ xs[k] := by
  rw [List.take_succ_eq_append_getElem h]
  match hx : xs.take k with
  | [] => have := congrArg List.length hx; rw [List.length_take, List.length_nil] at this; omega
  | a :: r => exact joinT_snoc c a r xs[k]
theorem joinTail_len (s : List UInt8) (m : Nat) : ∀ r : List (List UInt8), (∀ x ∈ r, x.length ≤ m) → (Lib.joinTail s r).length ≤ (s.length + m) * r.length
  | [], _ => by simp [Lib.joinTail]
  | x :: r, h => by
    have ih := joinTail_len s m r (fun y hy => h y (List.mem_cons_of_mem _ hy))
    have hx := h x (List.mem_cons_self ..)
    unfold Lib.joinTail at ih ⊢
    simp only [List.map_cons, List.flatten_cons, List.length_append, List.length_cons]
    rw [Nat.mul_succ]
    omega
theorem joinT_size (c : UInt8) (m : Nat) (xs : List ByteArray) (h : ∀ x ∈ xs, x.size ≤ m) : (joinT c xs).size ≤ (1 + m) * xs.length := by
  have e : (joinT c xs).size = (Lib.join (xs.map (·.data.toList)) [c]).length := by unfold joinT ByteArray.size; simp
  rw [e]
  cases xs with
  | nil => simp [Lib.join, List.intercalate]
  | cons a r =>
    rw [List.map_cons, Lib.join_cons, List.length_append]
    have h1 := joinTail_len [c] m (r.map (·.data.toList)) (fun y hy => by
      obtain ⟨x, hx, rfl⟩ := List.mem_map.1 hy
      exact h x (List.mem_cons_of_mem _ hx))
    have h2 : a.data.toList.length ≤ m := h a (List.mem_cons_self ..)
    rw [List.length_map] at h1
    simp only [List.length_cons, List.length_nil, Nat.zero_add] at h1 ⊢
    rw [Nat.mul_succ]
    omega
theorem joinT_size_take (c : UInt8) (m : Nat) (xs : List ByteArray) (h : ∀ x ∈ xs, x.size ≤ m) (k : Nat) (hk : k ≤ xs.length) : (joinT c (xs.take k)).size ≤ (1 + m) * k := by
  have := joinT_size c m (xs.take k) (fun x hx => h x (List.mem_of_mem_take hx))
  rw [List.length_take, Nat.min_eq_left hk] at this
  exact this
def Tryz.layJoin_ren : Go.Shelf.Ren := ⟨fun | 156 => 35 | 165 => 72 | 166 => 73 | 169 => 74 | 240 => 96 | 241 => 97 | 276 => 120 | 277 => 121 | n => n, fun | 31 => 26 | 9 => 9 | 3 => 3 | 4 => 4 | 0 => 0 | 20 => 20 | 72 => 105 | 76 => 107 | 70 => 103 | 37 => 22 | 75 => 100 | 127 => 122 | 164 => 140 | 5 => 5 | 80 => 109 | n => n, fun | n => n⟩
theorem Tryz.layJoin : Go.Proofs.Lays.n156 Tryz.prog Tryz.layJoin_ren := {
  mixed := by kernel_rfl
  f156 := Tryz.func35.trans (congrArg some (by kernel_rfl))
  f165 := Tryz.func72.trans (congrArg some (by kernel_rfl))
  f166 := Tryz.func73.trans (congrArg some (by kernel_rfl))
  f169 := Tryz.func74.trans (congrArg some (by kernel_rfl))
  f240 := Tryz.func96.trans (congrArg some (by kernel_rfl))
  f241 := Tryz.func97.trans (congrArg some (by kernel_rfl))
  f276 := Tryz.func120.trans (congrArg some (by kernel_rfl))
  f277 := Tryz.func121.trans (congrArg some (by kernel_rfl))
  t0 := Tryz.underlying0
  a0 := Tryz.isAgg0
  z0 := Tryz.sizeOf0
  v0 := Tryz.zeroValue0
  t3 := Tryz.underlying3
  a3 := Tryz.isAgg3
  z3 := Tryz.sizeOf3
  v3 := Tryz.zeroValue3
  t4 := Tryz.underlying4
  a4 := Tryz.isAgg4
  z4 := Tryz.sizeOf4
  v4 := Tryz.zeroValue4
  t9 := Tryz.underlying9
  a9 := Tryz.isAgg9
  z9 := Tryz.sizeOf9
  v9 := Tryz.zeroValue9
  t20 := Tryz.underlying20
  a20 := Tryz.isAgg20
  z20 := Tryz.sizeOf20
  v20 := Tryz.zeroValue20
  t31 := Tryz.underlying26
  a31 := Tryz.isAgg26
  z31 := Tryz.sizeOf26
  v31 := Tryz.zeroValue26
  t37 := Tryz.underlying22
  a37 := Tryz.isAgg22
  z37 := Tryz.sizeOf22
  v37 := Tryz.zeroValue22
  t70 := Tryz.underlying103
  a70 := Tryz.isAgg103
  z70 := Tryz.sizeOf103
  v70 := Tryz.zeroValue103
  t72 := Tryz.underlying105
  a72 := Tryz.isAgg105
  z72 := Tryz.sizeOf105
  v72 := Tryz.zeroValue105
  t75 := Tryz.underlying100
  a75 := Tryz.isAgg100
  z75 := Tryz.sizeOf100
  v75 := Tryz.zeroValue100
  t76 := Tryz.underlying107
  a76 := Tryz.isAgg107
  z76 := Tryz.sizeOf107
  v76 := Tryz.zeroValue107
  t127 := Tryz.underlying122
  a127 := Tryz.isAgg122
  z127 := Tryz.sizeOf122
  v127 := Tryz.zeroValue122
  t164 := Tryz.underlying140
  a164 := Tryz.isAgg140
  z164 := Tryz.sizeOf140
  v164 := Tryz.zeroValue140 }
open Go.Shelf in
theorem extraJoin : Builder.Extra Tryz.prog Tryz.layJoin_ren where
  sizeBuilder := by kernel_rfl
  liesBuilder := by kernel_rfl
  t5 := Tryz.fmtInt.t5
  a5 := Tryz.fmtInt.a5
  z5 := Tryz.fmtInt.z5
  v5 := Tryz.fmtInt.v5
  infoByte := by kernel_rfl
  cellsByte := by kernel_rfl
  sizeByte := by kernel_rfl
  neB5 := by decide
theorem impl_join (c : UInt8) (w : World) (v : Value) (xs : List ByteArray) (h : Rd w.heap.size w v 1 xs.length (xs.flatMap putStr)) (h0 : 0 < xs.length) (hn : xs.length ≤ 1048576) (m : Nat) (hm : m ≤ 1000) (hs : ∀ x ∈ xs, x.size ≤ m) :
    Calls Tryz.prog 35 #[v, .string ⟨#[c]⟩] w fun e w' => e = .returned (.string (joinT c xs)) ∧ Below w.heap.size w w' := by
  obtain ⟨hL, ao, cap, rfl, hcap, hmax, hnil, hsome⟩ := h
  obtain ⟨b, off, rfl, hb, hc⟩ := hsome h0
  refine Any.strings_Join Tryz.layJoin extraJoin b off cap xs ⟨#[c]⟩ w (fun j x hx => ?_) hb (by omega) hcap ?_
  · have hj := (List.getElem?_eq_some_iff.1 hx).1
    rw [hc j (by omega), putStr_get xs j hj]
    have := (List.getElem?_eq_some_iff.1 hx).2
    rw [this]
  · have h1 := joinT_size c m xs hs
    have e : (joinT c xs).size = (Lib.join (xs.map (·.data.toList)) [c]).length := by unfold joinT ByteArray.size; simp
    have h2 : (1 + m) * xs.length ≤ 1001 * 1048576 := Nat.mul_le_mul (by omega) hn
    have e2 : (⟨#[c]⟩ : ByteArray).data.toList = [c] := rfl
    rw [e2]
    omega
end Go.Proofs.YtnbodmbagendnaaGreatDoor
namespace Go.Proofs.YtnbodmbagendnaaGreatDoor
open Go.ChangeShapes Go.WideShapes Go.ChangeAt Go.RowKit Go.Deep Go.Joins
set_option linter.unusedVariables false
set_option maxRecDepth 100000
set_option linter.unusedSimpArgs false
def meltT (x : Melt) : ByteArray := if meltB x = true then x.id ++ ⟨#[32]⟩ ++ joinT 44 x.ingots ++ ⟨#[32]⟩ ++ decT x.mass else ⟨#[]⟩
theorem nameB_size {s : ByteArray} (h : nameB s = true) : s.size ≤ 10 := by
  unfold nameB nameL at h
  simp only [Bool.and_eq_true, decide_eq_true_eq] at h
  have e : s.data.toList.length = s.size := rfl
  omega
theorem meltB_facts {x : Melt} (h : meltB x = true) : x.id.size ≤ 10 ∧ 1 ≤ x.ingots.length ∧ x.ingots.length ≤ 16 ∧ (∀ a ∈ x.ingots, a.size ≤ 10) ∧ 1 ≤ x.mass ∧ x.mass ≤ 320000000 := by
  simp only [meltB, Bool.and_eq_true, decide_eq_true_eq] at h
  obtain ⟨h1, h2, h3, h4, h5⟩ := h
  refine ⟨nameB_size h1, h2, h3, fun a ha => ?_, inB_true h5⟩
  obtain ⟨i, hi, rfl⟩ := List.mem_iff_getElem.1 ha
  have := allK_true h4 i hi
  unfold stepB at this
  rw [List.getElem?_eq_getElem hi] at this
  simp only [Bool.and_eq_true] at this
  exact nameB_size this.1
theorem decT_size (n : Int) (h0 : 0 < n) (h1 : n ≤ 9223372036854775807) : (decT n).size ≤ 20 := by
  obtain ⟨N, rfl⟩ : ∃ N : Nat, n = (N : Int) := ⟨n.toNat, by omega⟩
  have hd := decD_len N (by omega)
  unfold decD at hd
  rw [if_neg (by omega)] at hd
  have e : (decT (N : Int)).size = (Lib.decDigits N).length := by
    unfold decT Lib.itoa ByteArray.size
    rw [if_neg (by omega)]
    simp
  omega
theorem meltT_parts {x : Melt} (h : meltB x = true) : (joinT 44 x.ingots).size ≤ 176 ∧ (decT x.mass).size ≤ 20 := by
  obtain ⟨h1, h2, h3, h4, h5, h6⟩ := meltB_facts h
  have := joinT_size 44 10 x.ingots h4
  have h7 : (1 + 10) * x.ingots.length ≤ 11 * 16 := Nat.mul_le_mul_left 11 h3
  exact ⟨by omega, decT_size _ (by omega) (by omega)⟩
theorem spec_l14One_isT {b : Bool} (x : Melt) (a o : Nat) (w : World) (hx : x.ok w) (hn : x.ingots.length ≤ 1048576) (h0 : w.cell? ⟨a, o, none⟩ = some (.string x.id)) (h1 : w.cell? ⟨a, o + 1, none⟩ = some x.list) (h2 : w.cell? ⟨a, o + 2, none⟩ = some (.int .i64 x.mass)) (ha : a < w.heap.size) (hb : meltB x = b) :
    Calls Tryz.prog 76 #[.pointer (some ⟨a, o, none⟩)] w fun e w' => e = .returned (.bool b) ∧ Below w.heap.size w w' := by
  subst hb; exact spec_l14One x a o w hx hn h0 h1 h2 ha

set_option maxHeartbeats 4000000 in
theorem impl_MeltText (x : Melt) (w : World) (hx : x.ok w) (hn : x.ingots.length ≤ 1048576) (hp : Pow10 w) :
    Calls Tryz.prog 11 #[.agg #[.string x.id, x.list, .int .i64 x.mass]] w fun e w' => e = .returned (.string (meltT x)) ∧ Below w.heap.size w w' := by
  have hr := hx.2.1.1
  have VB := Lib.hid (Own.new w 28 [.string x.id, x.list, .int .i64 x.mass])
  have B0 : Below w.heap.size w (w.alloc (.cells #[.string x.id, x.list, .int .i64 x.mass] 28)) := by (repeat' (first | (with_reducible exact Below.refl _ _) | (with_reducible assumption) | (with_reducible refine below_dn ?_ _) | (with_reducible refine Below.drew ?_) | (with_reducible refine Below.alloc ?_ ?_ _) | (with_reducible refine Below.setCell ?_ ?_ _) | go_size))
  have HB0 := Lib.hid B0
  obtain ⟨lo, lc, el⟩ := hr.form
  cases hb : meltB x
  · have e : Hid (meltT x = ⟨#[]⟩) := (if_neg (by rw [hb]; simp) : meltT x = ⟨#[]⟩)
    have H := Lib.hid (impl_ValidMelt_is x _ ⟨hx.1, ⟨hx.2.1.1.up B0, hx.2.1.2⟩, hx.2.2⟩ hn hb)
    rw [el] at H HB0 VB ⊢
    clear hx hr hb B0 hp el
    go_enter Tryz.func11, Tryz.ntmps11
    go_wp2_with fail
    refine H.out.mono ?_; rintro e1 w1 ⟨rfl, b1⟩
    have HB1 := Lib.hid (bnext HB0.out b1)
    clear b1
    go_wp2_with fail
    go_ret
    exact ⟨by rw [e.out]; try rfl, HB1.out⟩
  · have H := Lib.hid (impl_ValidMelt_is x _ ⟨hx.1, ⟨hx.2.1.1.up B0, hx.2.1.2⟩, hx.2.2⟩ hn hb)
    obtain ⟨f1, f2, f3, f4, f5, f6⟩ := meltB_facts hb
    obtain ⟨g1, g2⟩ := meltT_parts hb
    have e : Hid (meltT x = x.id ++ ⟨#[32]⟩ ++ joinT 44 x.ingots ++ ⟨#[32]⟩ ++ decT x.mass) := (if_pos hb : meltT x = _)
    have HJ := Lib.hid (fun w' (h' : Below w.heap.size w w') x0 => aboveC (impl_join 44 (above w' x0) x.list x.ingots ((hr.up h').up (above_below _ _)) (by omega) (by omega) 10 (by omega) f4))
    have HD := Lib.hid (fun w' (h' : Below w.heap.size w w') x0 => aboveC (impl_Decimal x.mass (above w' x0) (by omega) (by omega) ((hp.below h').below (above_below _ _))))
    have s1 : (x.id ++ (⟨#[32]⟩ : ByteArray)).size = x.id.size + 1 := by rw [ByteArray.size_append]; rfl
    have s2 : (x.id ++ (⟨#[32]⟩ : ByteArray) ++ joinT 44 x.ingots).size = x.id.size + 1 + (joinT 44 x.ingots).size := by rw [ByteArray.size_append, s1]
    have s3 : (x.id ++ (⟨#[32]⟩ : ByteArray) ++ joinT 44 x.ingots ++ ⟨#[32]⟩).size = x.id.size + 1 + (joinT 44 x.ingots).size + 1 := by rw [ByteArray.size_append, s2]; rfl
    have s0 : (⟨#[32]⟩ : ByteArray).size = 1 := rfl
    rw [el] at H HB0 VB HJ ⊢
    clear hx hr hb B0 hp el f4
    generalize joinT 44 x.ingots = J at *
    generalize decT x.mass = D at *
    go_enter Tryz.func11, Tryz.ntmps11
    go_wp2_with fail
    refine H.out.mono ?_; rintro e1 w1 ⟨rfl, b1⟩
    have HB1 := Lib.hid (bnext HB0.out b1)
    have HV1 := Lib.hid (VB.out.below b1 VB.out.lt)
    have v0 : (_ : Option Value) = some (.string x.id) := HV1.out.cell 0
    have v1 : (_ : Option Value) = some (.slice lo x.ingots.length lc) := HV1.out.cell 1
    have v2 : (_ : Option Value) = some (.int .i64 x.mass) := HV1.out.cell 2
    have vl := HV1.out.lt
    clear b1
    go_wp2_with fail
    refine wp_region_above (by kernel_rfl) (by kernel_rfl) ?_
    repeat (go_big_quiet_step ((first | (go_at_call 35; exact (HJ.out _ HB1.out _)) | (go_at_call 36; exact (HD.out _ HB1.out _)))))
    refine wpQuiet_nil ?_
    intro w2 b2
    have HB2 := Lib.hid (bnext HB1.out b2)
    clear b2
    go_wp2_with fail
    go_ret
    exact ⟨by rw [e.out]; try rfl, HB2.out⟩

theorem impl_MeltTextL (x : Melt) (l : Value) (w : World) (hx : x.ok w) (h : Rd w.heap.size w l 1 x.ingots.length (x.ingots.flatMap putStr)) (hn : x.ingots.length ≤ 1048576) (hp : Pow10 w) :
    Calls Tryz.prog 11 #[.agg #[.string x.id, l, .int .i64 x.mass]] w fun e w' => e = .returned (.string (meltT x)) ∧ Below w.heap.size w w' :=
  impl_MeltText ⟨x.id, l, x.ingots, x.mass⟩ w ⟨hx.1, ⟨h, hx.2.1.2⟩, hx.2.2⟩ hn hp
theorem same_nt (x : ByteArray) : (!(x.toList == x.toList)) = false := by simp
theorem same_t (x : ByteArray) : (x.toList == x.toList) = true := by simp
end Go.Proofs.YtnbodmbagendnaaGreatDoor
