/- The document's cells: each function by its contract. -/
import Derived.Test.YtihnaonainhjgaaDoorLaw23
import Derived.Test.YtihnaonainhjgaaDoorAbB
set_option linter.unusedVariables false
set_option linter.unusedSimpArgs false
namespace Go.Proofs.Tryd
open Go.Ab

def rsV (s : CS) (L : V) : V := .agg [.str s.s0, .str s.s1, .str s.s2, .str s.s3, L, .int .i64 s.crash, .bool s.down]
def refAt (n t : Nat) (s : CS) (r : Bool) (g : Nat) : List (Nat × Blk) := [(n, .row 0 7 [rsV s (.gl t g 2 (s.loose.map encC))]), (t, .tok g 2 s.loose.length r)]
abbrev refs (s : CS) (r : Bool) (g : Nat) : List (Nat × Blk) := refAt 1000 1001 s r g
def rsE (s : CS) : V := .agg [.str s.s0, .str s.s1, .str s.s2, .str s.s3, .esl, .int .i64 s.crash, .bool s.down]

def max0 (n : Int) : Int := if n > 0 then n else 0
theorem newCells_ok (p : Int × List Bool) : CallOK prog G0 17 [plan p] (memOf []) (fun r' m' => r' = .ptr 7 0 0 0 ∧ m' = memOf (refAt 7 507 (csN (max0 p.1)) false 0)) := by
  refine CallOK.bodyM (cf := cfM 8 [] []) ty_ok (fn := f17) ⟨func17, rfl, rfl, by kernel_rfl⟩ rfl (Nat.le_of_ble_eq_true rfl) rfl ?_ ?_
  · rintro r' m' ⟨_, rfl⟩; exact ⟨_, rfl, rfl⟩
  conv => whnf
  refine RetOK.now ?_
  conv => whnf
  refine ⟨refAt 7 507 (csN (max0 p.1)) false 0, .ptr 7 0 0 0, .conv (by repeat' (first | rfl | trivial | apply And.intro)), convM.bth (by (repeat' (first | trivial | apply And.intro)) <;> (first | exact BTh.same _ _ _ _ _ rfl (Nat.le_of_ble_eq_true rfl) | (refine BTh.rowL rfl (by first | rfl | trivial) ?_; (repeat' (first | rfl | trivial | apply And.intro)); done) | exact BTh.rowP rfl (by first | rfl | trivial) (by simp [*]) | exact BTh.tok _ _ _ _ _ rfl rfl | exact BTh.new _ _ rfl rfl)), ?_⟩
  exact ⟨rfl, rfl⟩

def CS.rbump (s : CS) : CS := if s.crash > 0 then { s with crash := s.crash - 1, down := s.crash - 1 == 0 } else s
theorem count_ok (s : CS) (r : Bool) (hc : s.crash ≤ 9223372036854775807) : CallOK prog G0 55 [.ptr 1000 0 0 0] (memOf (refs s r 0)) (fun r' m' => r' = .bool (!s.rbump.down) ∧ m' = memOf (refs s.rbump r 0)) := by
  refine CallOK.bodyM (cf := cfM 28 [] []) ty_ok (fn := f55) ⟨func55, rfl, rfl, by kernel_rfl⟩ rfl (Nat.le_of_ble_eq_true rfl) rfl ?_ ?_
  · rintro r' m' ⟨_, rfl⟩; exact ⟨_, rfl, rfl⟩
  conv => whnf
  refine brd (fun h => ?_) (fun h => ?_)
  · have e : s.rbump = { s with crash := s.crash - 1, down := s.crash - 1 == 0 } := if_pos h
    have hw := wrap64 (s.crash - 1) (by omega) (by omega)
    rw [e]
    conv => whnf
    refine RetOK.now ?_
    conv => whnf
    refine ⟨refs { s with crash := s.crash - 1, down := s.crash - 1 == 0 } r 0, .bool (!(s.crash - 1 == 0)), .conv ?_, convM.bth ?_, rfl, rfl⟩
    · rw [hw]
      repeat' (first | rfl | trivial | apply And.intro)
    · rw [hw]
      (repeat' (first | trivial | apply And.intro)) <;> (first | exact BTh.same _ _ _ _ _ rfl (Nat.le_of_ble_eq_true rfl) | (refine BTh.rowL rfl (by first | rfl | trivial) ?_; (repeat' (first | rfl | trivial | apply And.intro)); done) | exact BTh.rowP rfl (by first | rfl | trivial) (by simp [*]) | exact BTh.tok _ _ _ _ _ rfl rfl | exact BTh.new _ _ rfl rfl)
  · have e : s.rbump = s := if_neg h
    rw [e]
    conv => whnf
    refine RetOK.now ?_
    conv => whnf
    refine ⟨refs s r 0, .bool (!s.down), .conv (by repeat' (first | rfl | trivial | apply And.intro)), convM.bth (by (repeat' (first | trivial | apply And.intro)) <;> (first | exact BTh.same _ _ _ _ _ rfl (Nat.le_of_ble_eq_true rfl) | (refine BTh.rowL rfl (by first | rfl | trivial) ?_; (repeat' (first | rfl | trivial | apply And.intro)); done) | exact BTh.rowP rfl (by first | rfl | trivial) (by simp [*]) | exact BTh.tok _ _ _ _ _ rfl rfl | exact BTh.new _ _ rfl rfl)), ?_⟩
    exact ⟨rfl, rfl⟩

def CS.rwriteR (s : CS) (i : Int) : Int := match s.atE i with
  | some n => n
  | none => if s.rbump.down then 13 else 0
def CS.rwriteS (s : CS) (i : Int) (x : List UInt8) : CS := match s.atE i with
  | some _ => s
  | none => if s.rbump.down then s.rbump else s.rbump.push i x
def CS.rwriteB (s : CS) (i : Int) (r : Bool) : Bool := match s.atE i with
  | some _ => r
  | none => if s.rbump.down then r else true
theorem rbump_loose (s : CS) : s.rbump.loose = s.loose := by unfold CS.rbump; split <;> rfl
theorem rwrite_ok (s : CS) (r : Bool) (i : Int) (x : List UInt8) (hc : s.crash ≤ 9223372036854775807) (hn : s.loose.length < 1000000) :
    CallOK prog G0 18 [.ptr 1000 0 0 0, .int .i64 i, .str x] (memOf (refs s r 0)) (fun r' m' => r' = .int .i64 (s.rwriteR i) ∧ m' = memOf (refs (s.rwriteS i x) (s.rwriteB i r) 1)) := by
  refine CallOK.bodyM (cf := cfM 35 [] []) ty_ok (fn := f18) ⟨func18, rfl, rfl, by kernel_rfl⟩ rfl (Nat.le_of_ble_eq_true rfl) rfl ?_ ?_
  · rintro r' m' ⟨_, rfl⟩; exact ⟨_, rfl, rfl⟩
  conv => whnf
  refine brb (fun hd => ?_) (fun hd => ?_)
  · have e : s.atE i = some 13 := by simp only [CS.atE, hd, if_true]
    conv => whnf
    refine RetOK.now ?_
    conv => whnf
    refine ⟨refs s r 1, .int .i64 13, .conv (by repeat' (first | rfl | trivial | apply And.intro)), convM.bth (by (repeat' (first | trivial | apply And.intro)) <;> (first | exact BTh.same _ _ _ _ _ rfl (Nat.le_of_ble_eq_true rfl) | (refine BTh.rowL rfl (by first | rfl | trivial) ?_; (repeat' (first | rfl | trivial | apply And.intro)); done) | exact BTh.rowP rfl (by first | rfl | trivial) (by simp [*]) | exact BTh.tok _ _ _ _ _ rfl rfl | exact BTh.new _ _ rfl rfl)), ?_⟩
    exact ⟨by simp only [CS.rwriteR, e], by simp only [CS.rwriteS, CS.rwriteB, e]⟩
  conv => whnf
  refine brd (fun h1 => ?_) (fun h1 => ?_)
  · have e : s.atE i = some 1 := by simp only [CS.atE, hd, h1, if_true]; rfl
    conv => whnf
    refine RetOK.now ?_
    conv => whnf
    refine ⟨refs s r 1, .int .i64 1, .conv (by repeat' (first | rfl | trivial | apply And.intro)), convM.bth (by (repeat' (first | trivial | apply And.intro)) <;> (first | exact BTh.same _ _ _ _ _ rfl (Nat.le_of_ble_eq_true rfl) | (refine BTh.rowL rfl (by first | rfl | trivial) ?_; (repeat' (first | rfl | trivial | apply And.intro)); done) | exact BTh.rowP rfl (by first | rfl | trivial) (by simp [*]) | exact BTh.tok _ _ _ _ _ rfl rfl | exact BTh.new _ _ rfl rfl)), ?_⟩
    exact ⟨by simp only [CS.rwriteR, e], by simp only [CS.rwriteS, CS.rwriteB, e]⟩
  conv => whnf
  refine brd (fun h2 => ?_) (fun h2 => ?_)
  · have h2' : i ≥ 4 := by omega
    have e : s.atE i = some 1 := by simp only [CS.atE, hd, h1, h2', if_true, if_false]; rfl
    conv => whnf
    refine RetOK.now ?_
    conv => whnf
    refine ⟨refs s r 1, .int .i64 1, .conv (by repeat' (first | rfl | trivial | apply And.intro)), convM.bth (by (repeat' (first | trivial | apply And.intro)) <;> (first | exact BTh.same _ _ _ _ _ rfl (Nat.le_of_ble_eq_true rfl) | (refine BTh.rowL rfl (by first | rfl | trivial) ?_; (repeat' (first | rfl | trivial | apply And.intro)); done) | exact BTh.rowP rfl (by first | rfl | trivial) (by simp [*]) | exact BTh.tok _ _ _ _ _ rfl rfl | exact BTh.new _ _ rfl rfl)), ?_⟩
    exact ⟨by simp only [CS.rwriteR, e], by simp only [CS.rwriteS, CS.rwriteB, e]⟩
  have h2' : ¬ i ≥ 4 := by omega
  have e : s.atE i = none := by simp only [CS.atE, hd, h1, h2', if_false]; rfl
  conv => whnf
  refine CallOK.renL (count_ok s r hc) [(1000, 1000), (1001, 1001)] [] (by first | rfl | (simp only [mupd_memOf]; rfl)) rfl rfl rfl rfl rfl ?_
  rintro _ _ ⟨rfl, rfl⟩
  refine ⟨_, _, refs s.rbump r 0, rfl, rfl, rfl, ?_⟩
  conv => whnf
  have hln := rbump_loose s
  cases hb : s.rbump.down with
  | true =>
    conv => whnf
    refine RetOK.now ?_
    conv => whnf
    refine ⟨refs s.rbump r 1, .int .i64 13, .conv (by repeat' (first | rfl | trivial | apply And.intro)), convM.bth (by (repeat' (first | trivial | apply And.intro)) <;> (first | exact BTh.same _ _ _ _ _ rfl (Nat.le_of_ble_eq_true rfl) | (refine BTh.rowL rfl (by first | rfl | trivial) ?_; (repeat' (first | rfl | trivial | apply And.intro)); done) | exact BTh.rowP rfl (by first | rfl | trivial) (by simp [*]) | exact BTh.tok _ _ _ _ _ rfl rfl | exact BTh.new _ _ rfl rfl)), ?_⟩
    exact ⟨by simp only [CS.rwriteR, e, hb, if_true], by simp only [CS.rwriteS, CS.rwriteB, e, hb, if_true]⟩
  | false =>
    conv => whnf
    refine ⟨⟨trivial, ?_, ?_⟩, ?_⟩
    · show ((s.rbump.loose.map encC).length + 1) * 24 ≤ _
      rw [List.length_map, hln]; omega
    · intro y hy
      rw [List.mem_singleton] at hy
      subst hy
      simp [leaves, cellV]
    conv => whnf
    refine RetOK.now ?_
    conv => whnf
    have e2 : s.rwriteS i x = s.rbump.push i x := by simp only [CS.rwriteS, e, hb]; rfl
    have e3 : s.rwriteB i r = true := by simp only [CS.rwriteB, e, hb]; rfl
    have e1 : s.rwriteR i = 0 := by simp only [CS.rwriteR, e, hb]; rfl
    rw [e1, e2, e3]
    refine ⟨refs (s.rbump.push i x) true 1, .int .i64 0, .conv ?_, ?_, rfl, rfl⟩
    · repeat' (first | rfl | trivial | apply And.intro)
    · have h1 : ((s.rbump.push i x).loose.map encC) = s.rbump.loose.map encC ++ [encC (i, x)] := by simp [CS.push]
      have h2 : (s.rbump.push i x).loose.length = (s.rbump.loose.map encC).length + 1 := by simp [CS.push]
      have h3 : ∀ b : Bool, (b || true) = true := by intro b; cases b <;> rfl
      simp only [refAt, h1, h2]
      refine convM.bth (And.intro ?_ (And.intro (.same 1 2 _ _ 1 ?_ (Nat.le_refl 1)) trivial))
      · refine BTh.rowL rfl rfl ?_
        (repeat' (first | rfl | trivial | exact h3 _ | apply And.intro))
      · rw [← h3 r]; rfl
def CS.readI (s : CS) (i : Int) (q : Nat) : List UInt8 := (s.loose.take q).foldl (fun (t : List UInt8) x => if x.1 = i then x.2 else t) (at4 s i)
theorem at4_set4 (t : CS) (a i : Int) (x : List UInt8) (ha : 0 ≤ a ∧ a < 4) (hi : 0 ≤ i ∧ i < 4) : at4 (t.set4 a x) i = if a = i then x else at4 t i := by
  have h1 : a = 0 ∨ a = 1 ∨ a = 2 ∨ a = 3 := by omega
  have h2 : i = 0 ∨ i = 1 ∨ i = 2 ∨ i = 3 := by omega
  rcases h1 with rfl | rfl | rfl | rfl <;> rcases h2 with rfl | rfl | rfl | rfl <;> rfl
theorem readI_now (s : CS) (hs : s.ok) (i : Int) (hi : 0 ≤ i ∧ i < 4) : s.readI i s.loose.length = at4 s.now i := by
  unfold CS.readI CS.now
  rw [List.take_length]
  have hl := hs.1
  revert hl
  generalize s.loose = l
  have : ∀ (l : List (Int × List UInt8)) (t : CS), (∀ x ∈ l, 0 ≤ x.1 ∧ x.1 < 4) → l.foldl (fun (t : List UInt8) x => if x.1 = i then x.2 else t) (at4 t i) = at4 (l.foldl (fun t x => t.set4 x.1 x.2) t) i := by
    intro l
    induction l with
    | nil => intro t _; rfl
    | cons x l ih =>
      intro t hl
      rw [List.foldl_cons, List.foldl_cons, ← ih _ (fun y hy => hl y (by simp [hy])), at4_set4 _ _ _ _ (hl x (by simp)) hi]
  exact this l s
theorem rread_ok (s : CS) (r : Bool) (i : Int) (hs : s.ok) :
    CallOK prog G0 25 [.ptr 1000 0 0 0, .int .i64 i] (memOf (refs s r 0)) (fun r' m' => r' = .tup [.str (s.readR i).1, .int .i64 (s.readR i).2] ∧ m' = memOf (refs s r 0)) := by
  have hn := hs.2
  refine CallOK.bodyM (cf := cfM 54 [] []) ty_ok (fn := f25) ⟨func25, rfl, rfl, by kernel_rfl⟩ rfl (Nat.le_of_ble_eq_true rfl) rfl ?_ ?_
  · rintro r' m' ⟨_, rfl⟩; exact ⟨_, rfl, rfl⟩
  conv => whnf
  refine brb (fun hd => ?_) (fun hd => ?_)
  · have e : s.atE i = some 13 := by simp only [CS.atE, hd, if_true]
    conv => whnf
    refine RetOK.now ?_
    conv => whnf
    refine ⟨refs s r 0, .tup [.str [], .int .i64 13], .conv (by repeat' (first | rfl | trivial | apply And.intro)), convM.bth (by (repeat' (first | trivial | apply And.intro)) <;> (first | exact BTh.same _ _ _ _ _ rfl (Nat.le_of_ble_eq_true rfl) | (refine BTh.rowL rfl (by first | rfl | trivial) ?_; (repeat' (first | rfl | trivial | apply And.intro)); done) | exact BTh.rowP rfl (by first | rfl | trivial) (by simp [*]) | exact BTh.tok _ _ _ _ _ rfl rfl | exact BTh.new _ _ rfl rfl)), ?_⟩
    exact ⟨by simp only [CS.readR, e], rfl⟩
  conv => whnf
  refine brd (fun h1 => ?_) (fun h1 => ?_)
  · have e : s.atE i = some 1 := by simp only [CS.atE, hd, h1, if_true]; rfl
    conv => whnf
    refine RetOK.now ?_
    conv => whnf
    refine ⟨refs s r 0, .tup [.str [], .int .i64 1], .conv (by repeat' (first | rfl | trivial | apply And.intro)), convM.bth (by (repeat' (first | trivial | apply And.intro)) <;> (first | exact BTh.same _ _ _ _ _ rfl (Nat.le_of_ble_eq_true rfl) | (refine BTh.rowL rfl (by first | rfl | trivial) ?_; (repeat' (first | rfl | trivial | apply And.intro)); done) | exact BTh.rowP rfl (by first | rfl | trivial) (by simp [*]) | exact BTh.tok _ _ _ _ _ rfl rfl | exact BTh.new _ _ rfl rfl)), ?_⟩
    exact ⟨by simp only [CS.readR, e], rfl⟩
  conv => whnf
  refine brd (fun h2 => ?_) (fun h2 => ?_)
  · have h2' : i ≥ 4 := by omega
    have e : s.atE i = some 1 := by simp only [CS.atE, hd, h1, h2', if_true, if_false]; rfl
    conv => whnf
    refine RetOK.now ?_
    conv => whnf
    refine ⟨refs s r 0, .tup [.str [], .int .i64 1], .conv (by repeat' (first | rfl | trivial | apply And.intro)), convM.bth (by (repeat' (first | trivial | apply And.intro)) <;> (first | exact BTh.same _ _ _ _ _ rfl (Nat.le_of_ble_eq_true rfl) | (refine BTh.rowL rfl (by first | rfl | trivial) ?_; (repeat' (first | rfl | trivial | apply And.intro)); done) | exact BTh.rowP rfl (by first | rfl | trivial) (by simp [*]) | exact BTh.tok _ _ _ _ _ rfl rfl | exact BTh.new _ _ rfl rfl)), ?_⟩
    exact ⟨by simp only [CS.readR, e], rfl⟩
  have h2' : ¬ i ≥ 4 := by omega
  have e : s.atE i = none := by simp only [CS.atE, hd, h1, h2', if_false]; rfl
  have hi4 : i = 0 ∨ i = 1 ∨ i = 2 ∨ i = 3 := by omega
  rcases hi4 with rfl | rfl | rfl | rfl
  · have hrI := readI_now s hs 0 ⟨by omega, by omega⟩
    conv => whnf
    refine ⟨by decide, ?_⟩
    conv => whnf
    refine LoopOK.intro (fun j : Nat => j ≤ s.loose.length) (fun j => [(0, .ptr 1000 0 0 0), (1, .int .i64 0), (6, .str (s.readI 0 j)), (7, .int .i64 j)]) (fun _ => refs s r 0) (fun j => s.loose.length - j) 0 (Nat.zero_le _) ?_ ?_
    · refine Le.conv (by repeat' (first | rfl | trivial | apply And.intro)) (by (repeat' (first | trivial | apply And.intro)) <;> (first | exact BTh.same _ _ _ _ _ rfl (Nat.le_of_ble_eq_true rfl) | (refine BTh.rowL rfl (by first | rfl | trivial) ?_; (repeat' (first | rfl | trivial | apply And.intro)); done) | exact BTh.rowP rfl (by first | rfl | trivial) (by simp [*]) | exact BTh.tok _ _ _ _ _ rfl rfl | exact BTh.new _ _ rfl rfl))
    · intro j hj
      conv => whnf
      refine brd (fun h => ?_) (fun h => ?_)
      · rw [List.length_map] at h
        have hj' : j < s.loose.length := by omega
        have hwr := wrap64 ((j : Int) + 1) (by omega) (by omega)
        have hf : s.readI 0 (j + 1) = if s.loose[j].1 = 0 then s.loose[j].2 else s.readI 0 j := foldl_take (fun (t : List UInt8) (x : Int × List UInt8) => if x.1 = 0 then x.2 else t) (at4 s 0) s.loose j hj'
        have hat : (s.loose.map encC)[((j : Int)).toNat]? = some (encC s.loose[j]) := by simp [hj']
        revert hf hat
        generalize s.loose[j] = x
        obtain ⟨a, b⟩ := x
        intro hf hat
        conv => whnf
        refine ⟨Int.natCast_nonneg j, _, hat, ?_⟩
        conv => whnf
        refine bri (fun h => ?_) (fun h => ?_)
        · have hf : s.readI 0 (j + 1) = b := hf.trans (if_pos h)
          conv => whnf
          refine ⟨Int.natCast_nonneg j, _, hat, ?_⟩
          conv => whnf
          refine Head.next (j + 1) hj' (by omega) (Le.conv (by repeat' (first | rfl | trivial | exact congrArg (V.int .i64) hwr | exact congrArg V.str hf.symm | apply And.intro)) (by (repeat' (first | trivial | apply And.intro)) <;> (first | exact BTh.same _ _ _ _ _ rfl (Nat.le_of_ble_eq_true rfl) | (refine BTh.rowL rfl (by first | rfl | trivial) ?_; (repeat' (first | rfl | trivial | apply And.intro)); done) | exact BTh.rowP rfl (by first | rfl | trivial) (by simp [*]) | exact BTh.tok _ _ _ _ _ rfl rfl | exact BTh.new _ _ rfl rfl)))
        · have hf : s.readI 0 (j + 1) = s.readI 0 j := hf.trans (if_neg h)
          conv => whnf
          refine Head.next (j + 1) hj' (by omega) (Le.conv (by repeat' (first | rfl | trivial | exact congrArg (V.int .i64) hwr | exact congrArg V.str hf.symm | apply And.intro)) (by (repeat' (first | trivial | apply And.intro)) <;> (first | exact BTh.same _ _ _ _ _ rfl (Nat.le_of_ble_eq_true rfl) | (refine BTh.rowL rfl (by first | rfl | trivial) ?_; (repeat' (first | rfl | trivial | apply And.intro)); done) | exact BTh.rowP rfl (by first | rfl | trivial) (by simp [*]) | exact BTh.tok _ _ _ _ _ rfl rfl | exact BTh.new _ _ rfl rfl)))
      · rw [List.length_map] at h
        have hj' : j = s.loose.length := by omega
        subst hj'
        conv => whnf
        refine RetOK.now ?_
        conv => whnf
        refine ⟨refs s r 0, .tup [.str (at4 s.now 0), .int .i64 0], .conv ?_, convM.bth (by (repeat' (first | trivial | apply And.intro)) <;> (first | exact BTh.same _ _ _ _ _ rfl (Nat.le_of_ble_eq_true rfl) | (refine BTh.rowL rfl (by first | rfl | trivial) ?_; (repeat' (first | rfl | trivial | apply And.intro)); done) | exact BTh.rowP rfl (by first | rfl | trivial) (by simp [*]) | exact BTh.tok _ _ _ _ _ rfl rfl | exact BTh.new _ _ rfl rfl)), ?_, rfl⟩
        · (repeat' (first | rfl | trivial | exact congrArg V.str hrI | apply And.intro))
        · simp only [CS.readR, e]
  · have hrI := readI_now s hs 1 ⟨by omega, by omega⟩
    conv => whnf
    refine ⟨by decide, ?_⟩
    conv => whnf
    refine LoopOK.intro (fun j : Nat => j ≤ s.loose.length) (fun j => [(0, .ptr 1000 0 0 0), (1, .int .i64 1), (6, .str (s.readI 1 j)), (7, .int .i64 j)]) (fun _ => refs s r 0) (fun j => s.loose.length - j) 0 (Nat.zero_le _) ?_ ?_
    · refine Le.conv (by repeat' (first | rfl | trivial | apply And.intro)) (by (repeat' (first | trivial | apply And.intro)) <;> (first | exact BTh.same _ _ _ _ _ rfl (Nat.le_of_ble_eq_true rfl) | (refine BTh.rowL rfl (by first | rfl | trivial) ?_; (repeat' (first | rfl | trivial | apply And.intro)); done) | exact BTh.rowP rfl (by first | rfl | trivial) (by simp [*]) | exact BTh.tok _ _ _ _ _ rfl rfl | exact BTh.new _ _ rfl rfl))
    · intro j hj
      conv => whnf
      refine brd (fun h => ?_) (fun h => ?_)
      · rw [List.length_map] at h
        have hj' : j < s.loose.length := by omega
        have hwr := wrap64 ((j : Int) + 1) (by omega) (by omega)
        have hf : s.readI 1 (j + 1) = if s.loose[j].1 = 1 then s.loose[j].2 else s.readI 1 j := foldl_take (fun (t : List UInt8) (x : Int × List UInt8) => if x.1 = 1 then x.2 else t) (at4 s 1) s.loose j hj'
        have hat : (s.loose.map encC)[((j : Int)).toNat]? = some (encC s.loose[j]) := by simp [hj']
        revert hf hat
        generalize s.loose[j] = x
        obtain ⟨a, b⟩ := x
        intro hf hat
        conv => whnf
        refine ⟨Int.natCast_nonneg j, _, hat, ?_⟩
        conv => whnf
        refine bri (fun h => ?_) (fun h => ?_)
        · have hf : s.readI 1 (j + 1) = b := hf.trans (if_pos h)
          conv => whnf
          refine ⟨Int.natCast_nonneg j, _, hat, ?_⟩
          conv => whnf
          refine Head.next (j + 1) hj' (by omega) (Le.conv (by repeat' (first | rfl | trivial | exact congrArg (V.int .i64) hwr | exact congrArg V.str hf.symm | apply And.intro)) (by (repeat' (first | trivial | apply And.intro)) <;> (first | exact BTh.same _ _ _ _ _ rfl (Nat.le_of_ble_eq_true rfl) | (refine BTh.rowL rfl (by first | rfl | trivial) ?_; (repeat' (first | rfl | trivial | apply And.intro)); done) | exact BTh.rowP rfl (by first | rfl | trivial) (by simp [*]) | exact BTh.tok _ _ _ _ _ rfl rfl | exact BTh.new _ _ rfl rfl)))
        · have hf : s.readI 1 (j + 1) = s.readI 1 j := hf.trans (if_neg h)
          conv => whnf
          refine Head.next (j + 1) hj' (by omega) (Le.conv (by repeat' (first | rfl | trivial | exact congrArg (V.int .i64) hwr | exact congrArg V.str hf.symm | apply And.intro)) (by (repeat' (first | trivial | apply And.intro)) <;> (first | exact BTh.same _ _ _ _ _ rfl (Nat.le_of_ble_eq_true rfl) | (refine BTh.rowL rfl (by first | rfl | trivial) ?_; (repeat' (first | rfl | trivial | apply And.intro)); done) | exact BTh.rowP rfl (by first | rfl | trivial) (by simp [*]) | exact BTh.tok _ _ _ _ _ rfl rfl | exact BTh.new _ _ rfl rfl)))
      · rw [List.length_map] at h
        have hj' : j = s.loose.length := by omega
        subst hj'
        conv => whnf
        refine RetOK.now ?_
        conv => whnf
        refine ⟨refs s r 0, .tup [.str (at4 s.now 1), .int .i64 0], .conv ?_, convM.bth (by (repeat' (first | trivial | apply And.intro)) <;> (first | exact BTh.same _ _ _ _ _ rfl (Nat.le_of_ble_eq_true rfl) | (refine BTh.rowL rfl (by first | rfl | trivial) ?_; (repeat' (first | rfl | trivial | apply And.intro)); done) | exact BTh.rowP rfl (by first | rfl | trivial) (by simp [*]) | exact BTh.tok _ _ _ _ _ rfl rfl | exact BTh.new _ _ rfl rfl)), ?_, rfl⟩
        · (repeat' (first | rfl | trivial | exact congrArg V.str hrI | apply And.intro))
        · simp only [CS.readR, e]
  · have hrI := readI_now s hs 2 ⟨by omega, by omega⟩
    conv => whnf
    refine ⟨by decide, ?_⟩
    conv => whnf
    refine LoopOK.intro (fun j : Nat => j ≤ s.loose.length) (fun j => [(0, .ptr 1000 0 0 0), (1, .int .i64 2), (6, .str (s.readI 2 j)), (7, .int .i64 j)]) (fun _ => refs s r 0) (fun j => s.loose.length - j) 0 (Nat.zero_le _) ?_ ?_
    · refine Le.conv (by repeat' (first | rfl | trivial | apply And.intro)) (by (repeat' (first | trivial | apply And.intro)) <;> (first | exact BTh.same _ _ _ _ _ rfl (Nat.le_of_ble_eq_true rfl) | (refine BTh.rowL rfl (by first | rfl | trivial) ?_; (repeat' (first | rfl | trivial | apply And.intro)); done) | exact BTh.rowP rfl (by first | rfl | trivial) (by simp [*]) | exact BTh.tok _ _ _ _ _ rfl rfl | exact BTh.new _ _ rfl rfl))
    · intro j hj
      conv => whnf
      refine brd (fun h => ?_) (fun h => ?_)
      · rw [List.length_map] at h
        have hj' : j < s.loose.length := by omega
        have hwr := wrap64 ((j : Int) + 1) (by omega) (by omega)
        have hf : s.readI 2 (j + 1) = if s.loose[j].1 = 2 then s.loose[j].2 else s.readI 2 j := foldl_take (fun (t : List UInt8) (x : Int × List UInt8) => if x.1 = 2 then x.2 else t) (at4 s 2) s.loose j hj'
        have hat : (s.loose.map encC)[((j : Int)).toNat]? = some (encC s.loose[j]) := by simp [hj']
        revert hf hat
        generalize s.loose[j] = x
        obtain ⟨a, b⟩ := x
        intro hf hat
        conv => whnf
        refine ⟨Int.natCast_nonneg j, _, hat, ?_⟩
        conv => whnf
        refine bri (fun h => ?_) (fun h => ?_)
        · have hf : s.readI 2 (j + 1) = b := hf.trans (if_pos h)
          conv => whnf
          refine ⟨Int.natCast_nonneg j, _, hat, ?_⟩
          conv => whnf
          refine Head.next (j + 1) hj' (by omega) (Le.conv (by repeat' (first | rfl | trivial | exact congrArg (V.int .i64) hwr | exact congrArg V.str hf.symm | apply And.intro)) (by (repeat' (first | trivial | apply And.intro)) <;> (first | exact BTh.same _ _ _ _ _ rfl (Nat.le_of_ble_eq_true rfl) | (refine BTh.rowL rfl (by first | rfl | trivial) ?_; (repeat' (first | rfl | trivial | apply And.intro)); done) | exact BTh.rowP rfl (by first | rfl | trivial) (by simp [*]) | exact BTh.tok _ _ _ _ _ rfl rfl | exact BTh.new _ _ rfl rfl)))
        · have hf : s.readI 2 (j + 1) = s.readI 2 j := hf.trans (if_neg h)
          conv => whnf
          refine Head.next (j + 1) hj' (by omega) (Le.conv (by repeat' (first | rfl | trivial | exact congrArg (V.int .i64) hwr | exact congrArg V.str hf.symm | apply And.intro)) (by (repeat' (first | trivial | apply And.intro)) <;> (first | exact BTh.same _ _ _ _ _ rfl (Nat.le_of_ble_eq_true rfl) | (refine BTh.rowL rfl (by first | rfl | trivial) ?_; (repeat' (first | rfl | trivial | apply And.intro)); done) | exact BTh.rowP rfl (by first | rfl | trivial) (by simp [*]) | exact BTh.tok _ _ _ _ _ rfl rfl | exact BTh.new _ _ rfl rfl)))
      · rw [List.length_map] at h
        have hj' : j = s.loose.length := by omega
        subst hj'
        conv => whnf
        refine RetOK.now ?_
        conv => whnf
        refine ⟨refs s r 0, .tup [.str (at4 s.now 2), .int .i64 0], .conv ?_, convM.bth (by (repeat' (first | trivial | apply And.intro)) <;> (first | exact BTh.same _ _ _ _ _ rfl (Nat.le_of_ble_eq_true rfl) | (refine BTh.rowL rfl (by first | rfl | trivial) ?_; (repeat' (first | rfl | trivial | apply And.intro)); done) | exact BTh.rowP rfl (by first | rfl | trivial) (by simp [*]) | exact BTh.tok _ _ _ _ _ rfl rfl | exact BTh.new _ _ rfl rfl)), ?_, rfl⟩
        · (repeat' (first | rfl | trivial | exact congrArg V.str hrI | apply And.intro))
        · simp only [CS.readR, e]
  · have hrI := readI_now s hs 3 ⟨by omega, by omega⟩
    conv => whnf
    refine ⟨by decide, ?_⟩
    conv => whnf
    refine LoopOK.intro (fun j : Nat => j ≤ s.loose.length) (fun j => [(0, .ptr 1000 0 0 0), (1, .int .i64 3), (6, .str (s.readI 3 j)), (7, .int .i64 j)]) (fun _ => refs s r 0) (fun j => s.loose.length - j) 0 (Nat.zero_le _) ?_ ?_
    · refine Le.conv (by repeat' (first | rfl | trivial | apply And.intro)) (by (repeat' (first | trivial | apply And.intro)) <;> (first | exact BTh.same _ _ _ _ _ rfl (Nat.le_of_ble_eq_true rfl) | (refine BTh.rowL rfl (by first | rfl | trivial) ?_; (repeat' (first | rfl | trivial | apply And.intro)); done) | exact BTh.rowP rfl (by first | rfl | trivial) (by simp [*]) | exact BTh.tok _ _ _ _ _ rfl rfl | exact BTh.new _ _ rfl rfl))
    · intro j hj
      conv => whnf
      refine brd (fun h => ?_) (fun h => ?_)
      · rw [List.length_map] at h
        have hj' : j < s.loose.length := by omega
        have hwr := wrap64 ((j : Int) + 1) (by omega) (by omega)
        have hf : s.readI 3 (j + 1) = if s.loose[j].1 = 3 then s.loose[j].2 else s.readI 3 j := foldl_take (fun (t : List UInt8) (x : Int × List UInt8) => if x.1 = 3 then x.2 else t) (at4 s 3) s.loose j hj'
        have hat : (s.loose.map encC)[((j : Int)).toNat]? = some (encC s.loose[j]) := by simp [hj']
        revert hf hat
        generalize s.loose[j] = x
        obtain ⟨a, b⟩ := x
        intro hf hat
        conv => whnf
        refine ⟨Int.natCast_nonneg j, _, hat, ?_⟩
        conv => whnf
        refine bri (fun h => ?_) (fun h => ?_)
        · have hf : s.readI 3 (j + 1) = b := hf.trans (if_pos h)
          conv => whnf
          refine ⟨Int.natCast_nonneg j, _, hat, ?_⟩
          conv => whnf
          refine Head.next (j + 1) hj' (by omega) (Le.conv (by repeat' (first | rfl | trivial | exact congrArg (V.int .i64) hwr | exact congrArg V.str hf.symm | apply And.intro)) (by (repeat' (first | trivial | apply And.intro)) <;> (first | exact BTh.same _ _ _ _ _ rfl (Nat.le_of_ble_eq_true rfl) | (refine BTh.rowL rfl (by first | rfl | trivial) ?_; (repeat' (first | rfl | trivial | apply And.intro)); done) | exact BTh.rowP rfl (by first | rfl | trivial) (by simp [*]) | exact BTh.tok _ _ _ _ _ rfl rfl | exact BTh.new _ _ rfl rfl)))
        · have hf : s.readI 3 (j + 1) = s.readI 3 j := hf.trans (if_neg h)
          conv => whnf
          refine Head.next (j + 1) hj' (by omega) (Le.conv (by repeat' (first | rfl | trivial | exact congrArg (V.int .i64) hwr | exact congrArg V.str hf.symm | apply And.intro)) (by (repeat' (first | trivial | apply And.intro)) <;> (first | exact BTh.same _ _ _ _ _ rfl (Nat.le_of_ble_eq_true rfl) | (refine BTh.rowL rfl (by first | rfl | trivial) ?_; (repeat' (first | rfl | trivial | apply And.intro)); done) | exact BTh.rowP rfl (by first | rfl | trivial) (by simp [*]) | exact BTh.tok _ _ _ _ _ rfl rfl | exact BTh.new _ _ rfl rfl)))
      · rw [List.length_map] at h
        have hj' : j = s.loose.length := by omega
        subst hj'
        conv => whnf
        refine RetOK.now ?_
        conv => whnf
        refine ⟨refs s r 0, .tup [.str (at4 s.now 3), .int .i64 0], .conv ?_, convM.bth (by (repeat' (first | trivial | apply And.intro)) <;> (first | exact BTh.same _ _ _ _ _ rfl (Nat.le_of_ble_eq_true rfl) | (refine BTh.rowL rfl (by first | rfl | trivial) ?_; (repeat' (first | rfl | trivial | apply And.intro)); done) | exact BTh.rowP rfl (by first | rfl | trivial) (by simp [*]) | exact BTh.tok _ _ _ _ _ rfl rfl | exact BTh.new _ _ rfl rfl)), ?_, rfl⟩
        · (repeat' (first | rfl | trivial | exact congrArg V.str hrI | apply And.intro))
        · simp only [CS.readR, e]
end Go.Proofs.Tryd
