/- The cells, the rest. -/
import Derived.Test.YtihnaonainhjgaaDoorCells
set_option linter.unusedVariables false
set_option linter.unusedSimpArgs false
namespace Go.Proofs.Tryd
open Go.Ab

def CS.push (s : CS) (i : Int) (x : List UInt8) : CS := { s with loose := s.loose ++ [(i, x)] }
def CS.writeR (s : CS) (i : Int) : Int := match s.atE i with
  | some n => n
  | none => if s.bump.down then 13 else 0
def CS.writeS (s : CS) (i : Int) (x : List UInt8) : CS := match s.atE i with
  | some _ => s
  | none => if s.bump.down then s.bump else s.bump.push i x
def CS.writeB (s : CS) (i : Int) (r : Bool) : Bool := match s.atE i with
  | some _ => r
  | none => if s.bump.down then r else true
theorem write_ok (s : CS) (r : Bool) (i : Int) (x : List UInt8) (hn : s.loose.length < 1000000) :
    CallOK prog G0 15 [.ptr 1000 0 0 0, .int .i64 i, .str x] (memOf (cells s r 0)) (fun r' m' => r' = .int .i64 (s.writeR i) ∧ m' = memOf (cells (s.writeS i x) (s.writeB i r) 1)) := by
  refine CallOK.bodyM (cf := cfM 31 [] []) ty_ok (fn := f15) ⟨func15, rfl, rfl, by kernel_rfl⟩ rfl (Nat.le_of_ble_eq_true rfl) rfl ?_ ?_
  · rintro r' m' ⟨_, rfl⟩; exact ⟨_, rfl, rfl⟩
  conv => whnf
  refine CallOK.renL (at_ok s r [119, 114, 105, 116, 101] i) [(1000, 1000), (1001, 1001)] [] (by first | rfl | (simp only [mupd_memOf]; rfl)) rfl rfl rfl rfl rfl ?_
  rintro _ _ ⟨rfl, rfl⟩
  refine ⟨_, _, cells s r 0, rfl, rfl, rfl, ?_⟩
  conv => whnf
  rcases s.atE_cases i with ⟨n, e⟩ | ⟨e, hd, h0, h4⟩
  · rw [e]
    conv => whnf
    refine PureOK.conv (number_some _ n) (by repeat' (first | rfl | trivial | apply And.intro)) ?_
    conv => whnf
    refine RetOK.now ?_
    conv => whnf
    refine ⟨cells s r 1, .int .i64 n, .conv (by repeat' (first | rfl | trivial | apply And.intro)), convM.bth (by (repeat' (first | trivial | apply And.intro)) <;> (first | exact BTh.same _ _ _ _ _ rfl (Nat.le_of_ble_eq_true rfl) | (refine BTh.rowL rfl (by first | rfl | trivial) ?_; (repeat' (first | rfl | trivial | apply And.intro)); done) | exact BTh.rowP rfl (by first | rfl | trivial) (by simp [*]) | exact BTh.tok _ _ _ _ _ rfl rfl | exact BTh.new _ _ rfl rfl)), ?_⟩
    exact ⟨by simp only [CS.writeR, e], by simp only [CS.writeS, CS.writeB, e]⟩
  · rw [e]
    conv => whnf
    refine CallOK.renL (counted_ok s r [119, 114, 105, 116, 101]) [(1000, 1000), (1001, 1001)] [] (by first | rfl | (simp only [mupd_memOf]; rfl)) rfl rfl rfl rfl rfl ?_
    rintro _ _ ⟨rfl, rfl⟩
    refine ⟨_, _, cells s.bump r 0, rfl, rfl, rfl, ?_⟩
    conv => whnf
    have hu : s.bump.upE = if s.bump.down then some 13 else none := rfl
    cases hb : s.bump.down with
    | true =>
      rw [hu, hb, if_pos rfl]
      conv => whnf
      refine PureOK.conv (number_some _ 13) (by repeat' (first | rfl | trivial | apply And.intro)) ?_
      conv => whnf
      refine RetOK.now ?_
      conv => whnf
      refine ⟨cells s.bump r 1, .int .i64 13, .conv (by repeat' (first | rfl | trivial | apply And.intro)), convM.bth (by (repeat' (first | trivial | apply And.intro)) <;> (first | exact BTh.same _ _ _ _ _ rfl (Nat.le_of_ble_eq_true rfl) | (refine BTh.rowL rfl (by first | rfl | trivial) ?_; (repeat' (first | rfl | trivial | apply And.intro)); done) | exact BTh.rowP rfl (by first | rfl | trivial) (by simp [*]) | exact BTh.tok _ _ _ _ _ rfl rfl | exact BTh.new _ _ rfl rfl)), ?_⟩
      exact ⟨by simp only [CS.writeR, e, hb, if_true], by simp only [CS.writeS, CS.writeB, e, hb, if_true]⟩
    | false =>
      rw [hu, hb, if_neg (by simp)]
      conv => whnf
      refine ⟨⟨trivial, ?_, ?_⟩, ?_⟩
      · show ((s.loose.map encC).length + 1) * 24 ≤ _
        rw [List.length_map]; omega
      · intro y hy
        rw [List.mem_singleton] at hy
        subst hy
        simp [leaves, cellV]
      conv => whnf
      refine RetOK.now ?_
      conv => whnf
      have e2 : s.writeS i x = s.bump.push i x := by simp only [CS.writeS, e, hb]; rfl
      have e3 : s.writeB i r = true := by simp only [CS.writeB, e, hb]; rfl
      have e1 : s.writeR i = 0 := by simp only [CS.writeR, e, hb]; rfl
      rw [e1, e2, e3]
      refine ⟨cells (s.bump.push i x) true 1, .int .i64 0, .conv ?_, ?_, rfl, rfl⟩
      · repeat' (first | rfl | trivial | apply And.intro)
      · have h1 : ((s.bump.push i x).loose.map encC) = s.loose.map encC ++ [encC (i, x)] := by simp [CS.push, CS.bump]
        have h2 : (s.bump.push i x).loose.length = (s.loose.map encC).length + 1 := by simp [CS.push, CS.bump]
        have h3 : ∀ b : Bool, (b || true) = true := by intro b; cases b <;> rfl
        simp only [cellsAt, h1, h2]
        refine convM.bth (And.intro ?_ (And.intro (.same 1 2 _ _ 1 ?_ (Nat.le_refl 1)) trivial))
        · refine BTh.rowL rfl rfl ?_
          (repeat' (first | rfl | trivial | exact h3 _ | apply And.intro))
        · rw [← h3 r]; rfl

theorem set4_keep (t : CS) (i : Int) (x : List UInt8) : (t.set4 i x).crash = t.crash ∧ (t.set4 i x).count = t.count ∧ (t.set4 i x).down = t.down ∧ (t.set4 i x).loose = t.loose := by
  unfold CS.set4
  (repeat' split) <;> exact ⟨rfl, rfl, rfl, rfl⟩
theorem foldl_keep (l : List (Int × List UInt8)) : ∀ t : CS, (l.foldl (fun t x => t.set4 x.1 x.2) t).crash = t.crash ∧ (l.foldl (fun t x => t.set4 x.1 x.2) t).count = t.count ∧ (l.foldl (fun t x => t.set4 x.1 x.2) t).down = t.down := by
  induction l with
  | nil => intro t; exact ⟨rfl, rfl, rfl⟩
  | cons x l ih =>
    intro t
    obtain ⟨a, b, c⟩ := ih (t.set4 x.1 x.2)
    have h := set4_keep t x.1 x.2
    exact ⟨a.trans h.1, b.trans h.2.1, c.trans h.2.2.1⟩

def CS.syncR (s : CS) : Int := if s.down then 13 else if s.bump.down then 13 else 0
def CS.syncS (s : CS) : CS := if s.down then s else if s.bump.down then s.bump else { s.bump.now with loose := [] }
def CS.syncB (s : CS) (r : Bool) : Bool := if s.down then r else if s.bump.down then r else false
theorem sync_ok (s : CS) (r : Bool) (hs : s.ok) :
    CallOK prog G0 19 [.ptr 1000 0 0 0] (memOf (cells s r 0)) (fun r' m' => r' = .int .i64 s.syncR ∧ m' = memOf (cells s.syncS (s.syncB r) 1)) := by
  refine CallOK.bodyM (cf := cfM 22 [] []) ty_ok (fn := f19) ⟨func19, rfl, rfl, by kernel_rfl⟩ rfl (Nat.le_of_ble_eq_true rfl) rfl ?_ ?_
  · rintro r' m' ⟨_, rfl⟩; exact ⟨_, rfl, rfl⟩
  conv => whnf
  refine CallOK.renL (up_ok s r [115, 121, 110, 99]) [(1000, 1000), (1001, 1001)] [] (by first | rfl | (simp only [mupd_memOf]; rfl)) rfl rfl rfl rfl rfl ?_
  rintro _ _ ⟨rfl, rfl⟩
  refine ⟨_, _, cells s r 0, rfl, rfl, rfl, ?_⟩
  conv => whnf
  have hu : ∀ s : CS, s.upE = if s.down then some 13 else none := fun _ => rfl
  cases hd : s.down with
  | true =>
    rw [hu, hd, if_pos rfl]
    conv => whnf
    refine PureOK.conv (number_some _ 13) (by repeat' (first | rfl | trivial | apply And.intro)) ?_
    conv => whnf
    refine RetOK.now ?_
    conv => whnf
    refine ⟨cells s r 1, .int .i64 13, .conv (by repeat' (first | rfl | trivial | apply And.intro)), convM.bth (by (repeat' (first | trivial | apply And.intro)) <;> (first | exact BTh.same _ _ _ _ _ rfl (Nat.le_of_ble_eq_true rfl) | (refine BTh.rowL rfl (by first | rfl | trivial) ?_; (repeat' (first | rfl | trivial | apply And.intro)); done) | exact BTh.rowP rfl (by first | rfl | trivial) (by simp [*]) | exact BTh.tok _ _ _ _ _ rfl rfl | exact BTh.new _ _ rfl rfl)), ?_⟩
    exact ⟨by simp only [CS.syncR, hd, if_true], by simp only [CS.syncS, CS.syncB, hd, if_true]⟩
  | false =>
    rw [hu, hd, if_neg (by simp)]
    conv => whnf
    refine CallOK.renL (counted_ok s r [115, 121, 110, 99]) [(1000, 1000), (1001, 1001)] [] (by first | rfl | (simp only [mupd_memOf]; rfl)) rfl rfl rfl rfl rfl ?_
    rintro _ _ ⟨rfl, rfl⟩
    refine ⟨_, _, cells s.bump r 0, rfl, rfl, rfl, ?_⟩
    conv => whnf
    cases hb : s.bump.down with
    | true =>
      rw [hu, hb, if_pos rfl]
      conv => whnf
      refine PureOK.conv (number_some _ 13) (by repeat' (first | rfl | trivial | apply And.intro)) ?_
      conv => whnf
      refine RetOK.now ?_
      conv => whnf
      refine ⟨cells s.bump r 1, .int .i64 13, .conv (by repeat' (first | rfl | trivial | apply And.intro)), convM.bth (by (repeat' (first | trivial | apply And.intro)) <;> (first | exact BTh.same _ _ _ _ _ rfl (Nat.le_of_ble_eq_true rfl) | (refine BTh.rowL rfl (by first | rfl | trivial) ?_; (repeat' (first | rfl | trivial | apply And.intro)); done) | exact BTh.rowP rfl (by first | rfl | trivial) (by simp [*]) | exact BTh.tok _ _ _ _ _ rfl rfl | exact BTh.new _ _ rfl rfl)), ?_⟩
      exact ⟨by simp only [CS.syncR, hd, hb, if_true]; rfl, by simp only [CS.syncS, CS.syncB, hd, hb, if_true]; rfl⟩
    | false =>
      rw [hu, hb, if_neg (by simp)]
      conv => whnf
      refine CallOK.renL (now_ok s.bump r hs) [(1000, 1000), (1001, 1001)] [] (by first | rfl | (simp only [mupd_memOf]; rfl)) rfl rfl rfl rfl rfl ?_
      rintro _ _ ⟨rfl, rfl⟩
      refine ⟨_, _, cells s.bump r 0, rfl, rfl, rfl, ?_⟩
      conv => whnf
      have hk : s.bump.now.crash = s.bump.crash ∧ s.bump.now.count = s.bump.count ∧ s.bump.now.down = s.bump.down := by
        exact foldl_keep _ _
      refine RetOK.drop (n := 1001) (g := 0) (sz := 2) (len := s.bump.loose.length) (r := r) 1 2 rfl Nat.zero_lt_one ?_
      refine RetOK.now ?_
      conv => whnf
      have e1 : s.syncR = 0 := by simp only [CS.syncR, hd, hb]; rfl
      have e2 : s.syncS = { s.bump.now with loose := [] } := by simp only [CS.syncS, hd, hb]; rfl
      have e3 : s.syncB r = false := by simp only [CS.syncB, hd, hb]; rfl
      rw [e1, e2, e3]
      refine ⟨cells { s.bump.now with loose := [] } false 1, .int .i64 0, .conv (by repeat' (first | rfl | trivial | apply And.intro)), convM.bth (And.intro ?_ (And.intro (.same _ _ _ _ _ rfl (Nat.le_of_ble_eq_true rfl)) trivial)), rfl, rfl⟩
      refine BTh.rowL rfl rfl ?_
      (repeat' (first | rfl | trivial | exact congrArg (V.int .i64) hk.1.symm | exact congrArg (V.int .i64) hk.2.1.symm | exact congrArg V.bool hk.2.2.symm | apply And.intro))

def CS.tear (s : CS) (n : Int) : CS := { s with crash := n, count := 0 }
theorem tear_ok (s : CS) (r : Bool) (n : Int) : CallOK prog G0 21 [.ptr 1000 0 0 0, .int .i64 n] (memOf (cells s r 0)) (fun r' m' => r' = .tup [] ∧ m' = memOf (cells (s.tear n) r 0)) := by
  refine CallOK.bodyM (cf := cfM 14 [] []) ty_ok (fn := f21) ⟨func21, rfl, rfl, by kernel_rfl⟩ rfl (Nat.le_of_ble_eq_true rfl) rfl ?_ ?_
  · rintro r' m' ⟨_, rfl⟩; exact ⟨_, rfl, rfl⟩
  conv => whnf
  refine RetOK.now ?_
  conv => whnf
  refine ⟨cells (s.tear n) r 0, .tup [], .conv (by repeat' (first | rfl | trivial | apply And.intro)), convM.bth (by (repeat' (first | trivial | apply And.intro)) <;> (first | exact BTh.same _ _ _ _ _ rfl (Nat.le_of_ble_eq_true rfl) | (refine BTh.rowL rfl (by first | rfl | trivial) ?_; (repeat' (first | rfl | trivial | apply And.intro)); done) | exact BTh.rowP rfl (by first | rfl | trivial) (by simp [*]) | exact BTh.tok _ _ _ _ _ rfl rfl | exact BTh.new _ _ rfl rfl)), ?_⟩
  exact ⟨rfl, rfl⟩
theorem down_ok (s : CS) (r : Bool) : CallOK prog G0 26 [.ptr 1000 0 0 0] (memOf (cells s r 0)) (fun r' m' => r' = .bool s.down ∧ m' = memOf (cells s r 0)) := by
  refine CallOK.bodyM (cf := cfM 11 [] []) ty_ok (fn := f26) ⟨func26, rfl, rfl, by kernel_rfl⟩ rfl (Nat.le_of_ble_eq_true rfl) rfl ?_ ?_
  · rintro r' m' ⟨_, rfl⟩; exact ⟨_, rfl, rfl⟩
  conv => whnf
  refine RetOK.now ?_
  conv => whnf
  refine ⟨cells s r 0, .bool s.down, .conv (by repeat' (first | rfl | trivial | apply And.intro)), convM.bth (by (repeat' (first | trivial | apply And.intro)) <;> (first | exact BTh.same _ _ _ _ _ rfl (Nat.le_of_ble_eq_true rfl) | (refine BTh.rowL rfl (by first | rfl | trivial) ?_; (repeat' (first | rfl | trivial | apply And.intro)); done) | exact BTh.rowP rfl (by first | rfl | trivial) (by simp [*]) | exact BTh.tok _ _ _ _ _ rfl rfl | exact BTh.new _ _ rfl rfl)), ?_⟩
  exact ⟨rfl, rfl⟩
theorem loose_ok (s : CS) (r : Bool) : CallOK prog G0 27 [.ptr 1000 0 0 0] (memOf (cells s r 0)) (fun r' m' => r' = .int .i64 s.loose.length ∧ m' = memOf (cells s r 0)) := by
  refine CallOK.bodyM (cf := cfM 10 [] []) ty_ok (fn := f27) ⟨func27, rfl, rfl, by kernel_rfl⟩ rfl (Nat.le_of_ble_eq_true rfl) rfl ?_ ?_
  · rintro r' m' ⟨_, rfl⟩; exact ⟨_, rfl, rfl⟩
  conv => whnf
  refine RetOK.now ?_
  conv => whnf
  have e : (s.loose.map encC).length = s.loose.length := List.length_map _
  refine ⟨cells s r 0, .int .i64 s.loose.length, .conv ?_, convM.bth (by (repeat' (first | trivial | apply And.intro)) <;> (first | exact BTh.same _ _ _ _ _ rfl (Nat.le_of_ble_eq_true rfl) | (refine BTh.rowL rfl (by first | rfl | trivial) ?_; (repeat' (first | rfl | trivial | apply And.intro)); done) | exact BTh.rowP rfl (by first | rfl | trivial) (by simp [*]) | exact BTh.tok _ _ _ _ _ rfl rfl | exact BTh.new _ _ rfl rfl)), rfl, rfl⟩
  (repeat' (first | rfl | trivial | exact congrArg (fun n : Nat => V.int .i64 n) e | apply And.intro))
end Go.Proofs.Tryd
