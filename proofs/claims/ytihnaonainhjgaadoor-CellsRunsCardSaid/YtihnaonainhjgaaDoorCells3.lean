/- Cells fall. -/
import Derived.Test.YtihnaonainhjgaaDoorCells2
set_option linter.unusedVariables false
set_option linter.unusedSimpArgs false
namespace Go.Proofs.Tryd
open Go.Ab

def keeps (keep : List Bool) (k : Nat) : Bool := !keep.isEmpty && keep[k % keep.length]?.getD false
def fallF (keep : List Bool) (t : CS) (q : (Int × List UInt8) × Nat) : CS := if keeps keep q.2 then t.set4 q.1.1 q.1.2 else t
def CS.fall (s : CS) (p : Int × List Bool) : CS := (s.loose.zipIdx.foldl (fallF p.2) s).fresh p.1
theorem fall_ok (s : CS) (r : Bool) (p : Int × List Bool) (hs : s.ok) (hp : p.2.length < 1000000) :
    CallOK prog G0 23 [.ptr 1000 0 0 0, plan p] (memOf (cells s r 0)) (fun r' m' => r' = .tup [] ∧ m' = memOf (cells (s.fall p) false 1)) := by
  obtain ⟨hl, hn⟩ := hs
  refine CallOK.bodyM (cf := cfM 45 [] []) ty_ok (fn := f23) ⟨func23, rfl, rfl, by kernel_rfl⟩ rfl (Nat.le_of_ble_eq_true rfl) rfl ?_ ?_
  · rintro r' m' ⟨_, rfl⟩; exact ⟨_, rfl, rfl⟩
  conv => whnf
  refine LoopOK.intro (fun q : Nat × CS => q.1 ≤ s.loose.length ∧ q.2 = (s.loose.zipIdx.take q.1).foldl (fallF p.2) s)
    (fun q => [(0, .ptr 1000 0 0 0), (3, .ptr 3 0 0 0), (11, .list 2 (s.loose.map encC)), (12, .int .i64 (s.loose.map encC).length), (13, .int .i64 q.1)])
    (fun q => [(3, .row 0 2 [plan p]), (1000, .row 0 9 [csV q.2 (.gl 1001 0 2 (s.loose.map encC))]), (1001, .tok 0 2 s.loose.length r)]) (fun q => s.loose.length - q.1) (0, s) ⟨Nat.zero_le _, rfl⟩ ?_ ?_
  · refine Le.conv (by repeat' (first | rfl | trivial | apply And.intro)) (by (repeat' (first | trivial | apply And.intro)) <;> (first | exact BTh.same _ _ _ _ _ rfl (Nat.le_of_ble_eq_true rfl) | (refine BTh.rowL rfl (by first | rfl | trivial) ?_; (repeat' (first | rfl | trivial | apply And.intro)); done) | exact BTh.rowP rfl (by first | rfl | trivial) (by simp [*]) | exact BTh.tok _ _ _ _ _ rfl rfl | exact BTh.new _ _ rfl rfl))
  · rintro ⟨i, t⟩ ⟨hi, ht⟩
    dsimp only at hi ht
    conv => whnf
    refine brd (fun h => ?_) (fun h => ?_)
    · rw [List.length_map] at h
      have hi' : i < s.loose.length := by omega
      have hx := hl _ (List.getElem_mem hi')
      have hf := foldl_take (fallF p.2) s s.loose.zipIdx i (by simpa using hi')
      rw [← ht, List.getElem_zipIdx, Nat.zero_add] at hf
      have hat : (s.loose.map encC)[((i : Int)).toNat]? = some (encC s.loose[i]) := by simp [hi']
      have hwr := wrap64 ((i : Int) + 1) (by omega) (by omega)
      revert hx hf hat
      generalize s.loose[i] = x
      obtain ⟨a, b⟩ := x
      intro hx hf hat
      conv => whnf
      refine ⟨Int.natCast_nonneg i, _, hat, ?_⟩
      conv => whnf
      refine DrawOK.intro ty_ok (by kernel_rfl) 15 (by kernel_rfl) ?_
      conv => whnf
      refine brd (fun h => ?_) (fun h => ?_)
      · rw [List.length_map] at h
        have hp0 : 0 < p.2.length := by omega
        conv => whnf
        refine ⟨by rw [List.length_map]; omega, ?_⟩
        conv => whnf
        have hm : ((i : Int).tmod ((p.2.map V.bool).length : Int)) = ((i % p.2.length : Nat) : Int) := by
          rw [List.length_map]; exact (Int.ofNat_tmod i p.2.length).symm
        have hb : (p.2.map V.bool)[i % p.2.length]? = some (.bool (keeps p.2 i)) := by
          have hlt := Nat.mod_lt i hp0
          have he : p.2.isEmpty = false := by cases hq : p.2 with
            | nil => rw [hq] at hp0; cases hp0
            | cons => rfl
          simp [keeps, he, hlt]
        refine ⟨?_, .bool (keeps p.2 i), ?_, ?_⟩
        · rw [hm]; exact Int.natCast_nonneg _
        · rw [hm]; exact hb
        conv => whnf
        refine brb (fun hk => ?_) (fun hk => ?_)
        · have e : fallF p.2 t ((a, b), i) = t.set4 a b := if_pos hk
          rw [e] at hf
          conv => whnf
          refine DrawOK.intro ty_ok (by kernel_rfl) 7 (by kernel_rfl) ?_
          conv => whnf
          have ha : a = 0 ∨ a = 1 ∨ a = 2 ∨ a = 3 := by dsimp only at hx; omega
          rcases ha with rfl | rfl | rfl | rfl
          all_goals
            refine ⟨by simp, ?_⟩
            conv => whnf
            refine Head.next (i + 1, _) ⟨hi', hf.symm⟩ (by dsimp only; omega) (Le.conv (by repeat' (first | rfl | trivial | exact congrArg (V.int .i64) hwr | apply And.intro)) (by (repeat' (first | trivial | apply And.intro)) <;> (first | exact BTh.same _ _ _ _ _ rfl (Nat.le_of_ble_eq_true rfl) | (refine BTh.rowL rfl (by first | rfl | trivial) ?_; (repeat' (first | rfl | trivial | apply And.intro)); done) | exact BTh.rowP rfl (by first | rfl | trivial) (by simp [*]) | exact BTh.tok _ _ _ _ _ rfl rfl | exact BTh.new _ _ rfl rfl)))
        · have e : fallF p.2 t ((a, b), i) = t := if_neg (by rw [hk]; simp)
          rw [e] at hf
          conv => whnf
          refine Head.next (i + 1, _) ⟨hi', hf.symm⟩ (by dsimp only; omega) (Le.conv (by repeat' (first | rfl | trivial | exact congrArg (V.int .i64) hwr | apply And.intro)) (by (repeat' (first | trivial | apply And.intro)) <;> (first | exact BTh.same _ _ _ _ _ rfl (Nat.le_of_ble_eq_true rfl) | (refine BTh.rowL rfl (by first | rfl | trivial) ?_; (repeat' (first | rfl | trivial | apply And.intro)); done) | exact BTh.rowP rfl (by first | rfl | trivial) (by simp [*]) | exact BTh.tok _ _ _ _ _ rfl rfl | exact BTh.new _ _ rfl rfl)))
      · rw [List.length_map] at h
        have hk : keeps p.2 i = false := by
          have : p.2 = [] := List.eq_nil_of_length_eq_zero (by omega)
          rw [this]; rfl
        have e : fallF p.2 t ((a, b), i) = t := if_neg (by rw [hk]; simp)
        rw [e] at hf
        conv => whnf
        refine Head.next (i + 1, _) ⟨hi', hf.symm⟩ (by dsimp only; omega) (Le.conv (by repeat' (first | rfl | trivial | exact congrArg (V.int .i64) hwr | apply And.intro)) (by (repeat' (first | trivial | apply And.intro)) <;> (first | exact BTh.same _ _ _ _ _ rfl (Nat.le_of_ble_eq_true rfl) | (refine BTh.rowL rfl (by first | rfl | trivial) ?_; (repeat' (first | rfl | trivial | apply And.intro)); done) | exact BTh.rowP rfl (by first | rfl | trivial) (by simp [*]) | exact BTh.tok _ _ _ _ _ rfl rfl | exact BTh.new _ _ rfl rfl)))
    · rw [List.length_map] at h
      have hi' : i = s.loose.length := by dsimp only at h; omega
      subst hi'
      rw [List.take_of_length_le (by simp)] at ht
      subst ht
      conv => whnf
      refine CallOK.renL (fresh_ok { (s.loose.zipIdx.foldl (fallF p.2) s) with loose := s.loose } r p) [(1000, 1000), (1001, 1001)] [] (by first | rfl | (simp only [mupd_memOf]; rfl)) rfl rfl rfl rfl rfl ?_
      rintro _ _ ⟨rfl, rfl⟩
      refine ⟨_, _, (3, .row 0 2 [plan p]) :: cells (s.fall p) false 1, rfl, rfl, rfl, ?_⟩
      conv => whnf
      refine RetOK.now ?_
      conv => whnf
      refine ⟨cells (s.fall p) false 1, .tup [], .conv (by repeat' (first | rfl | trivial | apply And.intro)), convM.bth (by (repeat' (first | trivial | apply And.intro)) <;> (first | exact BTh.same _ _ _ _ _ rfl (Nat.le_of_ble_eq_true rfl) | (refine BTh.rowL rfl (by first | rfl | trivial) ?_; (repeat' (first | rfl | trivial | apply And.intro)); done) | exact BTh.rowP rfl (by first | rfl | trivial) (by simp [*]) | exact BTh.tok _ _ _ _ _ rfl rfl | exact BTh.new _ _ rfl rfl)), ?_⟩
      exact ⟨rfl, rfl⟩
end Go.Proofs.Tryd
