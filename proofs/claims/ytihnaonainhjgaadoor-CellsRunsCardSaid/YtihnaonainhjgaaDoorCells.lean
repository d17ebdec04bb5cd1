/- The cells: each function by its contract. -/
import Derived.Test.YtihnaonainhjgaaDoorAs
set_option linter.unusedVariables false
set_option linter.unusedSimpArgs false
namespace Go.Proofs.Tryd
open Go.Ab

theorem wrap64 (n : Int) (h1 : -9223372036854775808 ≤ n) (h2 : n ≤ 9223372036854775807) : IntKind.i64.wrap n = n := by
  rw [IntKind.wrap_i64]; omega

structure CS where
  s0 : List UInt8
  s1 : List UInt8
  s2 : List UInt8
  s3 : List UInt8
  loose : List (Int × List UInt8)
  crash : Int
  count : Int
  down : Bool
def encC (x : Int × List UInt8) : V := .agg [.int .i64 x.1, .str x.2]
def csV (s : CS) (L : V) : V := .agg [.str s.s0, .str s.s1, .str s.s2, .str s.s3, L, .int .i64 s.crash, .any, .int .i64 s.count, .bool s.down]
def cellsAt (n t : Nat) (s : CS) (r : Bool) (g : Nat) : List (Nat × Blk) := [(n, .row 0 9 [csV s (.gl t g 2 (s.loose.map encC))]), (t, .tok g 2 s.loose.length r)]
abbrev cells (s : CS) (r : Bool) (g : Nat) : List (Nat × Blk) := cellsAt 1000 1001 s r g
def errV (what : List UInt8) (n : Int) : V := .iface 158 (.agg [.str what, .iface 156 (.agg [.int .i64 n])])
def errO (what : List UInt8) : Option Int → V
  | none => .nili
  | some n => errV what n
def CS.upE (s : CS) : Option Int := if s.down then some 13 else none
def CS.atE (s : CS) (i : Int) : Option Int := if s.down then some 13 else if i < 0 then some 1 else if i ≥ 4 then some 1 else none
def CS.bump (s : CS) : CS := { s with count := IntKind.i64.wrap (s.count + 1), down := IntKind.i64.wrap (s.count + 1) == s.crash }

theorem num_ok (e : Int) : PureOK prog G0 14 [.int .i64 e] (.int .i64 e) := by
  refine PureOK.body (cf := cfM 4 [] []) ty_ok (fn := f14) ⟨func14, rfl, rfl, by kernel_rfl⟩ rfl (Nat.le_of_ble_eq_true rfl) ?_
  conv => whnf
  refine RetOK.now ?_
  conv => whnf
  exact RetV.conv (by repeat' (first | rfl | trivial | apply And.intro))

theorem unwrap_asked (what : List UInt8) (x : V) (h : x.pure = true) (hx : ∃ t y, x = .iface t y) : PureOK prog G0 177 [.agg [.str what, x]] x := by
  obtain ⟨t, y, rfl⟩ := hx
  refine PureOK.body (cf := cfM 5 [] []) ty_ok (fn := f177) ⟨func177, rfl, rfl, by kernel_rfl⟩ rfl (Nat.le_of_ble_eq_true rfl) ?_
  conv => whnf
  refine RetOK.now ?_
  conv => whnf
  exact ⟨VTh.pure h⟩

theorem number_none : PureOK prog G0 53 [.nili] (.int .i64 0) := by
  refine PureOK.body (cf := cfM 9 [] []) ty_ok (fn := f53) ⟨func53, rfl, rfl, by kernel_rfl⟩ rfl (Nat.le_of_ble_eq_true rfl) ?_
  conv => whnf
  refine CallOK.renL (As_nil (.iface 159 (.ptr 1000 0 0 0)) [(1000, .row 0 1 [.agg [.int .i64 0]])] rfl rfl) [(1000, 3)] [] (by first | rfl | (simp only [mupd_memOf]; rfl)) rfl rfl rfl rfl rfl ?_
  rintro _ _ ⟨rfl, rfl⟩
  refine ⟨_, _, [(3, .row 0 1 [.agg [.int .i64 0]])], rfl, rfl, rfl, ?_⟩
  conv => whnf
  refine RetOK.now ?_
  conv => whnf
  exact RetV.conv (by repeat' (first | rfl | trivial | apply And.intro))
theorem number_some (what : List UInt8) (n : Int) : PureOK prog G0 53 [errV what n] (.int .i64 n) := by
  refine PureOK.body (cf := cfM 9 [] []) ty_ok (fn := f53) ⟨func53, rfl, rfl, by kernel_rfl⟩ rfl (Nat.le_of_ble_eq_true rfl) ?_
  conv => whnf
  have hc : Chain 156 1 (errV what n) (.agg [.int .i64 n]) := .wrap 0 158 177 _ _ _ asW_cells (unwrap_asked what _ rfl ⟨_, _, rfl⟩) rfl (.leaf _)
  refine CallOK.renL (As_ok asT_cells (asL_cells n) rfl (.agg [.int .i64 0]) rfl rfl 1 _ hc) [(1000, 3)] [] (by first | rfl | (simp only [mupd_memOf]; rfl)) rfl rfl rfl rfl rfl ?_
  rintro _ _ ⟨rfl, rfl⟩
  refine ⟨_, _, [(3, .row 0 1 [.agg [.int .i64 n]])], rfl, rfl, rfl, ?_⟩
  conv => whnf
  refine RetOK.now ?_
  conv => whnf
  exact RetV.conv (by repeat' (first | rfl | trivial | apply And.intro))

theorem up_ok (s : CS) (r : Bool) (what : List UInt8) : CallOK prog G0 56 [.ptr 1000 0 0 0, .str what] (memOf (cells s r 0)) (fun r' m' => r' = errO what s.upE ∧ m' = memOf (cells s r 0)) := by
  refine CallOK.bodyM (cf := cfM 23 [] []) ty_ok (fn := f56) ⟨func56, rfl, rfl, by kernel_rfl⟩ rfl (Nat.le_of_ble_eq_true rfl) rfl ?_ ?_
  · rintro r' m' ⟨_, rfl⟩; exact ⟨_, rfl, rfl⟩
  conv => whnf
  refine brb (fun hd => ?_) (fun hd => ?_)
  · conv => whnf
    refine RetOK.now ?_
    conv => whnf
    refine ⟨cells s r 0, errV what 13, .conv (by repeat' (first | rfl | trivial | apply And.intro)), convM.bth (by (repeat' (first | trivial | apply And.intro)) <;> (first | exact BTh.same _ _ _ _ _ rfl (Nat.le_of_ble_eq_true rfl) | (refine BTh.rowL rfl (by first | rfl | trivial) ?_; (repeat' (first | rfl | trivial | apply And.intro)); done) | exact BTh.rowP rfl (by first | rfl | trivial) (by simp [*]) | exact BTh.tok _ _ _ _ _ rfl rfl | exact BTh.new _ _ rfl rfl)), ?_⟩
    exact ⟨by simp only [CS.upE, hd, if_true]; rfl, rfl⟩
  · conv => whnf
    refine RetOK.now ?_
    conv => whnf
    refine ⟨cells s r 0, .nili, .conv (by repeat' (first | rfl | trivial | apply And.intro)), convM.bth (by (repeat' (first | trivial | apply And.intro)) <;> (first | exact BTh.same _ _ _ _ _ rfl (Nat.le_of_ble_eq_true rfl) | (refine BTh.rowL rfl (by first | rfl | trivial) ?_; (repeat' (first | rfl | trivial | apply And.intro)); done) | exact BTh.rowP rfl (by first | rfl | trivial) (by simp [*]) | exact BTh.tok _ _ _ _ _ rfl rfl | exact BTh.new _ _ rfl rfl)), ?_⟩
    exact ⟨by simp only [CS.upE, hd]; rfl, rfl⟩

theorem counted_ok (s : CS) (r : Bool) (what : List UInt8) : CallOK prog G0 52 [.ptr 1000 0 0 0, .str what] (memOf (cells s r 0)) (fun r' m' => r' = errO what s.bump.upE ∧ m' = memOf (cells s.bump r 0)) := by
  refine CallOK.bodyM (cf := cfM 28 [] []) ty_ok (fn := f52) ⟨func52, rfl, rfl, by kernel_rfl⟩ rfl (Nat.le_of_ble_eq_true rfl) rfl ?_ ?_
  · rintro r' m' ⟨_, rfl⟩; exact ⟨_, rfl, rfl⟩
  conv => whnf
  refine DrawOK.intro ty_ok (by kernel_rfl) 11 (by kernel_rfl) ?_
  conv => whnf
  refine CallOK.renL (up_ok s.bump r what) [(1000, 1000), (1001, 1001)] [] (by first | rfl | (simp only [mupd_memOf]; rfl)) rfl rfl rfl rfl rfl ?_
  rintro _ _ ⟨rfl, rfl⟩
  refine ⟨_, _, cells s.bump r 0, rfl, rfl, rfl, ?_⟩
  conv => whnf
  have he : s.bump.upE = some 13 ∨ s.bump.upE = none := by unfold CS.upE; split <;> simp
  rcases he with e | e
  · rw [e]
    conv => whnf
    refine RetOK.now ?_
    conv => whnf
    refine ⟨cells s.bump r 0, errV what 13, .conv (by repeat' (first | rfl | trivial | apply And.intro)), convM.bth (by (repeat' (first | trivial | apply And.intro)) <;> (first | exact BTh.same _ _ _ _ _ rfl (Nat.le_of_ble_eq_true rfl) | (refine BTh.rowL rfl (by first | rfl | trivial) ?_; (repeat' (first | rfl | trivial | apply And.intro)); done) | exact BTh.rowP rfl (by first | rfl | trivial) (by simp [*]) | exact BTh.tok _ _ _ _ _ rfl rfl | exact BTh.new _ _ rfl rfl)), ?_⟩
    exact ⟨rfl, rfl⟩
  · rw [e]
    conv => whnf
    refine RetOK.now ?_
    conv => whnf
    refine ⟨cells s.bump r 0, .nili, .conv (by repeat' (first | rfl | trivial | apply And.intro)), convM.bth (by (repeat' (first | trivial | apply And.intro)) <;> (first | exact BTh.same _ _ _ _ _ rfl (Nat.le_of_ble_eq_true rfl) | (refine BTh.rowL rfl (by first | rfl | trivial) ?_; (repeat' (first | rfl | trivial | apply And.intro)); done) | exact BTh.rowP rfl (by first | rfl | trivial) (by simp [*]) | exact BTh.tok _ _ _ _ _ rfl rfl | exact BTh.new _ _ rfl rfl)), ?_⟩
    exact ⟨rfl, rfl⟩

theorem at_ok (s : CS) (r : Bool) (what : List UInt8) (i : Int) : CallOK prog G0 51 [.ptr 1000 0 0 0, .str what, .int .i64 i] (memOf (cells s r 0)) (fun r' m' => r' = errO what (s.atE i) ∧ m' = memOf (cells s r 0)) := by
  refine CallOK.bodyM (cf := cfM 25 [] []) ty_ok (fn := f51) ⟨func51, rfl, rfl, by kernel_rfl⟩ rfl (Nat.le_of_ble_eq_true rfl) rfl ?_ ?_
  · rintro r' m' ⟨_, rfl⟩; exact ⟨_, rfl, rfl⟩
  conv => whnf
  refine CallOK.renL (up_ok s r what) [(1000, 1000), (1001, 1001)] [] (by first | rfl | (simp only [mupd_memOf]; rfl)) rfl rfl rfl rfl rfl ?_
  rintro _ _ ⟨rfl, rfl⟩
  refine ⟨_, _, cells s r 0, rfl, rfl, rfl, ?_⟩
  conv => whnf
  cases hd : s.down with
  | true =>
    have e : s.upE = some 13 := by simp only [CS.upE, hd, if_true]
    rw [e]
    conv => whnf
    refine RetOK.now ?_
    conv => whnf
    refine ⟨cells s r 0, errV what 13, .conv (by repeat' (first | rfl | trivial | apply And.intro)), convM.bth (by (repeat' (first | trivial | apply And.intro)) <;> (first | exact BTh.same _ _ _ _ _ rfl (Nat.le_of_ble_eq_true rfl) | (refine BTh.rowL rfl (by first | rfl | trivial) ?_; (repeat' (first | rfl | trivial | apply And.intro)); done) | exact BTh.rowP rfl (by first | rfl | trivial) (by simp [*]) | exact BTh.tok _ _ _ _ _ rfl rfl | exact BTh.new _ _ rfl rfl)), ?_⟩
    exact ⟨by simp only [CS.atE, hd, if_true]; rfl, rfl⟩
  | false =>
    have e : s.upE = none := by simp only [CS.upE, hd]; rfl
    rw [e]
    conv => whnf
    refine brd (fun h1 => ?_) (fun h1 => ?_)
    · conv => whnf
      refine RetOK.now ?_
      conv => whnf
      refine ⟨cells s r 0, errV what 1, .conv (by repeat' (first | rfl | trivial | apply And.intro)), convM.bth (by (repeat' (first | trivial | apply And.intro)) <;> (first | exact BTh.same _ _ _ _ _ rfl (Nat.le_of_ble_eq_true rfl) | (refine BTh.rowL rfl (by first | rfl | trivial) ?_; (repeat' (first | rfl | trivial | apply And.intro)); done) | exact BTh.rowP rfl (by first | rfl | trivial) (by simp [*]) | exact BTh.tok _ _ _ _ _ rfl rfl | exact BTh.new _ _ rfl rfl)), ?_⟩
      exact ⟨by simp only [CS.atE, hd, h1, if_true]; rfl, rfl⟩
    · conv => whnf
      refine brd (fun h2 => ?_) (fun h2 => ?_)
      · conv => whnf
        refine RetOK.now ?_
        conv => whnf
        refine ⟨cells s r 0, errV what 1, .conv (by repeat' (first | rfl | trivial | apply And.intro)), convM.bth (by (repeat' (first | trivial | apply And.intro)) <;> (first | exact BTh.same _ _ _ _ _ rfl (Nat.le_of_ble_eq_true rfl) | (refine BTh.rowL rfl (by first | rfl | trivial) ?_; (repeat' (first | rfl | trivial | apply And.intro)); done) | exact BTh.rowP rfl (by first | rfl | trivial) (by simp [*]) | exact BTh.tok _ _ _ _ _ rfl rfl | exact BTh.new _ _ rfl rfl)), ?_⟩
        exact ⟨by simp only [CS.atE, hd, h1, h2, if_true, if_false]; rfl, rfl⟩
      · conv => whnf
        refine RetOK.now ?_
        conv => whnf
        refine ⟨cells s r 0, .nili, .conv (by repeat' (first | rfl | trivial | apply And.intro)), convM.bth (by (repeat' (first | trivial | apply And.intro)) <;> (first | exact BTh.same _ _ _ _ _ rfl (Nat.le_of_ble_eq_true rfl) | (refine BTh.rowL rfl (by first | rfl | trivial) ?_; (repeat' (first | rfl | trivial | apply And.intro)); done) | exact BTh.rowP rfl (by first | rfl | trivial) (by simp [*]) | exact BTh.tok _ _ _ _ _ rfl rfl | exact BTh.new _ _ rfl rfl)), ?_⟩
        exact ⟨by simp only [CS.atE, hd, h1, h2, if_false]; rfl, rfl⟩

def CS.set4 (s : CS) (i : Int) (x : List UInt8) : CS := if i = 0 then { s with s0 := x } else if i = 1 then { s with s1 := x } else if i = 2 then { s with s2 := x } else { s with s3 := x }
def CS.now (s : CS) : CS := s.loose.foldl (fun t x => t.set4 x.1 x.2) s
def CS.safeV (s : CS) : List V := [.str s.s0, .str s.s1, .str s.s2, .str s.s3]
def CS.ok (s : CS) : Prop := (∀ x ∈ s.loose, 0 ≤ x.1 ∧ x.1 < 4) ∧ s.loose.length < 1000000

theorem encC_cell (x : Int × List UInt8) : leaves (encC x) = [.int .i64 x.1, .str x.2] := rfl
theorem foldl_take {α β : Type} (f : β → α → β) (b : β) (l : List α) (i : Nat) (h : i < l.length) : (l.take (i + 1)).foldl f b = f ((l.take i).foldl f b) l[i] := by
  rw [List.take_succ_eq_append_getElem h, List.foldl_append]; rfl

theorem now_ok (s : CS) (r : Bool) (hs : s.ok) :
    CallOK prog G0 54 [.ptr 1000 0 0 0] (memOf (cells s r 0)) (fun r' m' => r' = .agg s.now.safeV ∧ m' = memOf (cells s r 0)) := by
  obtain ⟨hl, hn⟩ := hs
  refine CallOK.bodyM (cf := cfM 26 [] []) ty_ok (fn := f54) ⟨func54, rfl, rfl, by kernel_rfl⟩ rfl (Nat.le_of_ble_eq_true rfl) rfl ?_ ?_
  · rintro r' m' ⟨_, rfl⟩; exact ⟨_, rfl, rfl⟩
  conv => whnf
  refine LoopOK.intro (fun q : Nat × CS => q.1 ≤ s.loose.length ∧ q.2 = (s.loose.take q.1).foldl (fun t x => t.set4 x.1 x.2) s)
    (fun q => [(2, .ptr 2 0 0 0), (3, .ptr 3 0 0 0), (13, .list 2 (s.loose.map encC)), (14, .int .i64 (s.loose.map encC).length), (15, .int .i64 q.1)])
    (fun q => (2, .row 0 1 [.str [], .str [], .str [], .str []]) :: (3, .row 0 1 [.str q.2.s0, .str q.2.s1, .str q.2.s2, .str q.2.s3]) :: cells s r 0) (fun q => s.loose.length - q.1) (0, s) ⟨Nat.zero_le _, rfl⟩ ?_ ?_
  · refine Le.conv (by repeat' (first | rfl | trivial | apply And.intro)) (by (repeat' (first | trivial | apply And.intro)) <;> (first | exact BTh.same _ _ _ _ _ rfl (Nat.le_of_ble_eq_true rfl) | (refine BTh.rowL rfl (by first | rfl | trivial) ?_; (repeat' (first | rfl | trivial | apply And.intro)); done) | exact BTh.rowP rfl (by first | rfl | trivial) (by simp [*]) | exact BTh.tok _ _ _ _ _ rfl rfl | exact BTh.new _ _ rfl rfl))
  · rintro ⟨i, t⟩ ⟨hi, ht⟩
    dsimp only at hi ht
    conv => whnf
    refine brd (fun h => ?_) (fun h => ?_)
    · rw [List.length_map] at h
      have hi' : i < s.loose.length := by omega
      have hx := hl _ (List.getElem_mem hi')
      have hf := foldl_take (fun (t : CS) (x : Int × List UInt8) => t.set4 x.1 x.2) s s.loose i hi'
      rw [← ht] at hf
      have hat : (s.loose.map encC)[((i : Int)).toNat]? = some (encC s.loose[i]) := by simp [hi']
      revert hx hf hat
      generalize s.loose[i] = x
      obtain ⟨a, b⟩ := x
      intro hx hf hat
      conv => whnf
      refine ⟨Int.natCast_nonneg i, _, hat, ?_⟩
      conv => whnf
      have ha : a = 0 ∨ a = 1 ∨ a = 2 ∨ a = 3 := by dsimp only at hx; omega
      have hwr := wrap64 ((i : Int) + 1) (by omega) (by omega)
      rcases ha with rfl | rfl | rfl | rfl
      all_goals
        refine ⟨by simp, ?_⟩
        conv => whnf
        refine Head.next (i + 1, _) ⟨hi', hf.symm⟩ (by dsimp only; omega) (Le.conv (by repeat' (first | rfl | trivial | exact congrArg (V.int .i64) hwr | apply And.intro)) (by (repeat' (first | trivial | apply And.intro)) <;> (first | exact BTh.same _ _ _ _ _ rfl (Nat.le_of_ble_eq_true rfl) | (refine BTh.rowL rfl (by first | rfl | trivial) ?_; (repeat' (first | rfl | trivial | apply And.intro)); done) | exact BTh.rowP rfl (by first | rfl | trivial) (by simp [*]) | exact BTh.tok _ _ _ _ _ rfl rfl | exact BTh.new _ _ rfl rfl)))
    · rw [List.length_map] at h
      have hi' : i = s.loose.length := by omega
      subst hi'
      rw [List.take_length] at ht
      have ht : t = s.now := ht
      subst ht
      conv => whnf
      refine RetOK.now ?_
      conv => whnf
      refine ⟨cells s r 0, .agg s.now.safeV, .conv (by repeat' (first | rfl | trivial | apply And.intro)), convM.bth (by (repeat' (first | trivial | apply And.intro)) <;> (first | exact BTh.same _ _ _ _ _ rfl (Nat.le_of_ble_eq_true rfl) | (refine BTh.rowL rfl (by first | rfl | trivial) ?_; (repeat' (first | rfl | trivial | apply And.intro)); done) | exact BTh.rowP rfl (by first | rfl | trivial) (by simp [*]) | exact BTh.tok _ _ _ _ _ rfl rfl | exact BTh.new _ _ rfl rfl)), ?_⟩
      exact ⟨rfl, rfl⟩

/-! ### New cells -/
def csN (crash : Int) : CS := ⟨[], [], [], [], [], crash, 0, false⟩
def plan (p : Int × List Bool) : V := .agg [.int .i64 p.1, .list 1 (p.2.map .bool)]
def csE (s : CS) : V := .agg [.str s.s0, .str s.s1, .str s.s2, .str s.s3, .esl, .int .i64 s.crash, .esl, .int .i64 s.count, .bool s.down]
theorem fresh_nil (s : CS) (p : Int × List Bool) :
    CallOK prog G0 50 [.ptr 1000 0 0 0, plan p] (memOf [(1000, .row 0 9 [csE s])]) (fun r' m' => r' = .tup [] ∧ m' = memOf [(1000, .row 0 9 [csE { s with crash := p.1, count := 0, down := false }])]) := by
  refine CallOK.bodyM (cf := cfM 19 [] []) ty_ok (fn := f50) ⟨func50, rfl, rfl, by kernel_rfl⟩ rfl (Nat.le_of_ble_eq_true rfl) rfl ?_ ?_
  · rintro r' m' ⟨_, rfl⟩; exact ⟨_, rfl, rfl⟩
  conv => whnf
  refine RetOK.now ?_
  conv => whnf
  refine ⟨[(1000, .row 0 9 [csE { s with crash := p.1, count := 0, down := false }])], .tup [], .conv (by repeat' (first | rfl | trivial | apply And.intro)), convM.bth (by (repeat' (first | trivial | apply And.intro)) <;> (first | exact BTh.same _ _ _ _ _ rfl (Nat.le_of_ble_eq_true rfl) | (refine BTh.rowL rfl (by first | rfl | trivial) ?_; (repeat' (first | rfl | trivial | apply And.intro)); done) | exact BTh.rowP rfl (by first | rfl | trivial) (by simp [*]) | exact BTh.tok _ _ _ _ _ rfl rfl | exact BTh.new _ _ rfl rfl)), ?_⟩
  exact ⟨rfl, rfl⟩
def CS.fresh (s : CS) (c : Int) : CS := { s with loose := [], crash := c, count := 0, down := false }
theorem fresh_ok (s : CS) (r : Bool) (p : Int × List Bool) :
    CallOK prog G0 50 [.ptr 1000 0 0 0, plan p] (memOf (cells s r 0)) (fun r' m' => r' = .tup [] ∧ m' = memOf (cells (s.fresh p.1) false 1)) := by
  refine CallOK.bodyM (cf := cfM 19 [] []) ty_ok (fn := f50) ⟨func50, rfl, rfl, by kernel_rfl⟩ rfl (Nat.le_of_ble_eq_true rfl) rfl ?_ ?_
  · rintro r' m' ⟨_, rfl⟩; exact ⟨_, rfl, rfl⟩
  conv => whnf
  refine RetOK.drop (n := 1001) (g := 0) (sz := 2) (len := s.loose.length) (r := r) 1 2 rfl Nat.zero_lt_one ?_
  refine RetOK.now ?_
  conv => whnf
  refine ⟨cells (s.fresh p.1) false 1, .tup [], .conv (by repeat' (first | rfl | trivial | apply And.intro)), convM.bth (by (repeat' (first | trivial | apply And.intro)) <;> (first | exact BTh.same _ _ _ _ _ rfl (Nat.le_of_ble_eq_true rfl) | (refine BTh.rowL rfl (by first | rfl | trivial) ?_; (repeat' (first | rfl | trivial | apply And.intro)); done) | exact BTh.rowP rfl (by first | rfl | trivial) (by simp [*]) | exact BTh.tok _ _ _ _ _ rfl rfl | exact BTh.new _ _ rfl rfl)), ?_⟩
  exact ⟨rfl, rfl⟩
theorem new_ok (p : Int × List Bool) : CallOK prog G0 13 [plan p] (memOf []) (fun r' m' => r' = .ptr 5 0 0 0 ∧ m' = memOf (cellsAt 5 500 (csN p.1) false 0)) := by
  refine CallOK.bodyM (cf := cfM 10 [] []) ty_ok (fn := f13) ⟨func13, rfl, rfl, by kernel_rfl⟩ rfl (Nat.le_of_ble_eq_true rfl) rfl ?_ ?_
  · rintro r' m' ⟨_, rfl⟩; exact ⟨_, rfl, rfl⟩
  conv => whnf
  refine CallOK.renL (fresh_nil (csN 0) p) [(1000, 5)] [] (by first | rfl | (simp only [mupd_memOf]; rfl)) rfl rfl rfl rfl rfl ?_
  rintro _ _ ⟨rfl, rfl⟩
  refine ⟨_, _, [(1, .row 0 2 [plan p]), (5, .row 0 9 [csE (csN p.1)])], rfl, rfl, rfl, ?_⟩
  conv => whnf
  refine RetOK.now ?_
  conv => whnf
  refine ⟨cellsAt 5 500 (csN p.1) false 0, .ptr 5 0 0 0, .conv (by repeat' (first | rfl | trivial | apply And.intro)), convM.bth (by (repeat' (first | trivial | apply And.intro)) <;> (first | exact BTh.same _ _ _ _ _ rfl (Nat.le_of_ble_eq_true rfl) | (refine BTh.rowL rfl (by first | rfl | trivial) ?_; (repeat' (first | rfl | trivial | apply And.intro)); done) | exact BTh.rowP rfl (by first | rfl | trivial) (by simp [*]) | exact BTh.tok _ _ _ _ _ rfl rfl | exact BTh.new _ _ rfl rfl)), ?_⟩
  exact ⟨rfl, rfl⟩

/-! ### Read, Write, Sync -/
def at4 (s : CS) (i : Int) : List UInt8 := if i = 0 then s.s0 else if i = 1 then s.s1 else if i = 2 then s.s2 else s.s3
def CS.readR (s : CS) (i : Int) : List UInt8 × Int := match s.atE i with
  | some n => ([], n)
  | none => (at4 s.now i, 0)
theorem CS.atE_cases (s : CS) (i : Int) : (∃ n, s.atE i = some n) ∨ s.atE i = none ∧ s.down = false ∧ 0 ≤ i ∧ i < 4 := by
  unfold CS.atE
  cases s.down <;> simp
  split
  · simp
  · split
    · simp
    · right; simp; omega
theorem read_ok (s : CS) (r : Bool) (i : Int) (hs : s.ok) :
    CallOK prog G0 16 [.ptr 1000 0 0 0, .int .i64 i] (memOf (cells s r 0)) (fun r' m' => r' = .tup [.str (s.readR i).1, .int .i64 (s.readR i).2] ∧ m' = memOf (cells s r 0)) := by
  refine CallOK.bodyM (cf := cfM 18 [] []) ty_ok (fn := f16) ⟨func16, rfl, rfl, by kernel_rfl⟩ rfl (Nat.le_of_ble_eq_true rfl) rfl ?_ ?_
  · rintro r' m' ⟨_, rfl⟩; exact ⟨_, rfl, rfl⟩
  conv => whnf
  refine CallOK.renL (at_ok s r [114, 101, 97, 100] i) [(1000, 1000), (1001, 1001)] [] (by first | rfl | (simp only [mupd_memOf]; rfl)) rfl rfl rfl rfl rfl ?_
  rintro _ _ ⟨rfl, rfl⟩
  refine ⟨_, _, cells s r 0, rfl, rfl, rfl, ?_⟩
  conv => whnf
  rcases s.atE_cases i with ⟨n, e⟩ | ⟨e, hd, h0, h4⟩
  · rw [e]
    conv => whnf
    refine PureOK.conv (number_some _ n) (by repeat' (first | rfl | trivial | apply And.intro)) ?_
    conv => whnf
    refine RetOK.now ?_
    conv => whnf
    refine ⟨cells s r 0, .tup [.str [], .int .i64 n], .conv (by repeat' (first | rfl | trivial | apply And.intro)), convM.bth (by (repeat' (first | trivial | apply And.intro)) <;> (first | exact BTh.same _ _ _ _ _ rfl (Nat.le_of_ble_eq_true rfl) | (refine BTh.rowL rfl (by first | rfl | trivial) ?_; (repeat' (first | rfl | trivial | apply And.intro)); done) | exact BTh.rowP rfl (by first | rfl | trivial) (by simp [*]) | exact BTh.tok _ _ _ _ _ rfl rfl | exact BTh.new _ _ rfl rfl)), ?_⟩
    exact ⟨by simp only [CS.readR, e], rfl⟩
  · rw [e]
    conv => whnf
    refine CallOK.renL (now_ok s r hs) [(1000, 1000), (1001, 1001)] [] (by first | rfl | (simp only [mupd_memOf]; rfl)) rfl rfl rfl rfl rfl ?_
    rintro _ _ ⟨rfl, rfl⟩
    refine ⟨_, _, cells s r 0, rfl, rfl, rfl, ?_⟩
    conv => whnf
    refine ⟨h0, .str (at4 s.now i), ?_, ?_⟩
    · have : i = 0 ∨ i = 1 ∨ i = 2 ∨ i = 3 := by omega
      rcases this with rfl | rfl | rfl | rfl <;> rfl
    conv => whnf
    refine RetOK.now ?_
    conv => whnf
    refine ⟨cells s r 0, .tup [.str (at4 s.now i), .int .i64 0], .conv (by repeat' (first | rfl | trivial | apply And.intro)), convM.bth (by (repeat' (first | trivial | apply And.intro)) <;> (first | exact BTh.same _ _ _ _ _ rfl (Nat.le_of_ble_eq_true rfl) | (refine BTh.rowL rfl (by first | rfl | trivial) ?_; (repeat' (first | rfl | trivial | apply And.intro)); done) | exact BTh.rowP rfl (by first | rfl | trivial) (by simp [*]) | exact BTh.tok _ _ _ _ _ rfl rfl | exact BTh.new _ _ rfl rfl)), ?_⟩
    exact ⟨by simp only [CS.readR, e], rfl⟩
end Go.Proofs.Tryd
