/- The statements of layer 23. -/
import Derived.Test.YtihnaonainhjgaaDoorCells3
set_option linter.unusedVariables false
set_option linter.unusedSimpArgs false
namespace Go.Proofs.Tryd
open Go.Ab

def S1 : CS := ⟨[], [], [], [], [(1, [97])], 0, 1, false⟩
theorem S1_ok : S1.ok := by
  refine ⟨?_, by decide⟩
  intro x hx
  simp [S1] at hx
  subst hx
  decide
theorem S0_ok (c : Int) : (csN c).ok := ⟨fun x hx => by simp [csN] at hx, by simp [csN]⟩
theorem awake23_ok : PureOK prog G0 12 [] (.bool true) := by
  refine PureOK.body (cf := cfM 50 [] []) ty_ok (fn := f12) ⟨func12, rfl, rfl, by kernel_rfl⟩ rfl (Nat.le_of_ble_eq_true rfl) ?_
  conv => whnf
  refine CallOK.weakArgs (args' := [plan (0, [])]) ?_ (VThL.conv (by repeat' (first | rfl | trivial | apply And.intro)))
  refine CallOK.renL (new_ok (0, [])) [] [(500, 509), (5, 9)] (by first | rfl | (simp only [mupd_memOf]; rfl)) rfl rfl rfl rfl rfl ?_
  rintro _ _ ⟨rfl, rfl⟩
  refine ⟨_, _, cellsAt 9 509 (csN 0) false 0, rfl, rfl, rfl, ?_⟩
  conv => whnf
  refine CallOK.renL (write_ok (csN 0) false 1 [97] (by decide)) [(1000, 9), (1001, 509)] [] (by first | rfl | (simp only [mupd_memOf]; rfl)) rfl rfl rfl rfl rfl ?_
  rintro _ _ ⟨rfl, rfl⟩
  refine ⟨_, _, cellsAt 9 509 S1 true 1, rfl, rfl, rfl, ?_⟩
  conv => whnf
  refine CallOK.renL (read_ok S1 true 1 S1_ok) [(1000, 9), (1001, 509)] [] (by first | rfl | (simp only [mupd_memOf]; rfl)) rfl rfl rfl rfl rfl ?_
  rintro _ _ ⟨rfl, rfl⟩
  refine ⟨_, _, cellsAt 9 509 S1 true 1, rfl, rfl, rfl, ?_⟩
  conv => whnf
  refine CallOK.renL (loose_ok S1 true) [(1000, 9), (1001, 509)] [] (by first | rfl | (simp only [mupd_memOf]; rfl)) rfl rfl rfl rfl rfl ?_
  rintro _ _ ⟨rfl, rfl⟩
  refine ⟨_, _, cellsAt 9 509 S1 true 1, rfl, rfl, rfl, ?_⟩
  conv => whnf
  refine CallOK.weakArgs (args' := [.ptr 9 0 0 0, plan (0, [])]) ?_ (VThL.conv (by repeat' (first | rfl | trivial | apply And.intro)))
  refine CallOK.renL (fall_ok S1 true (0, []) S1_ok (by decide)) [(1000, 9), (1001, 509)] [] (by first | rfl | (simp only [mupd_memOf]; rfl)) rfl rfl rfl rfl rfl ?_
  rintro _ _ ⟨rfl, rfl⟩
  refine ⟨_, _, cellsAt 9 509 (csN 0) false 2, rfl, rfl, rfl, ?_⟩
  conv => whnf
  refine CallOK.renL (read_ok (csN 0) false 1 (S0_ok 0)) [(1000, 9), (1001, 509)] [] (by first | rfl | (simp only [mupd_memOf]; rfl)) rfl rfl rfl rfl rfl ?_
  rintro _ _ ⟨rfl, rfl⟩
  refine ⟨_, _, cellsAt 9 509 (csN 0) false 2, rfl, rfl, rfl, ?_⟩
  conv => whnf
  refine PureOK.conv (num_ok _) (by repeat' (first | rfl | trivial | apply And.intro)) ?_
  conv => whnf
  refine PureOK.conv (num_ok _) (by repeat' (first | rfl | trivial | apply And.intro)) ?_
  conv => whnf
  refine PureOK.conv (num_ok _) (by repeat' (first | rfl | trivial | apply And.intro)) ?_
  conv => whnf
  refine RetOK.now ?_
  conv => whnf
  exact RetV.conv (by repeat' (first | rfl | trivial | apply And.intro))

theorem readR_of {s : CS} (hd : s.down = false) {j : Int} (h0 : 0 ≤ j) (h4 : j < 4) : s.readR j = (at4 s.now j, 0) := by
  have : s.atE j = none := by unfold CS.atE; rw [hd, if_neg (by simp), if_neg (by omega), if_neg (by omega)]
  unfold CS.readR
  rw [this]
theorem now_bump (s : CS) : s.bump.now.s0 = s.now.s0 ∧ s.bump.now.s1 = s.now.s1 ∧ s.bump.now.s2 = s.now.s2 ∧ s.bump.now.s3 = s.now.s3 := by
  have : ∀ (l : List (Int × List UInt8)) (t u : CS), (t.s0 = u.s0 ∧ t.s1 = u.s1 ∧ t.s2 = u.s2 ∧ t.s3 = u.s3) →
      (l.foldl (fun t x => t.set4 x.1 x.2) t).s0 = (l.foldl (fun t x => t.set4 x.1 x.2) u).s0 ∧ (l.foldl (fun t x => t.set4 x.1 x.2) t).s1 = (l.foldl (fun t x => t.set4 x.1 x.2) u).s1 ∧ (l.foldl (fun t x => t.set4 x.1 x.2) t).s2 = (l.foldl (fun t x => t.set4 x.1 x.2) u).s2 ∧ (l.foldl (fun t x => t.set4 x.1 x.2) t).s3 = (l.foldl (fun t x => t.set4 x.1 x.2) u).s3 := by
    intro l
    induction l with
    | nil => intro t u h; exact h
    | cons x l ih =>
      intro t u h
      refine ih _ _ ?_
      obtain ⟨h0, h1, h2, h3⟩ := h
      unfold CS.set4
      dsimp only
      split
      · exact ⟨rfl, h1, h2, h3⟩
      · split
        · exact ⟨h0, rfl, h2, h3⟩
        · split
          · exact ⟨h0, h1, rfl, h3⟩
          · exact ⟨h0, h1, h2, rfl⟩
  exact this _ _ _ ⟨rfl, rfl, rfl, rfl⟩
theorem now_push (s : CS) (i : Int) (x : List UInt8) : (s.push i x).now.s0 = (s.now.set4 i x).s0 ∧ (s.push i x).now.s1 = (s.now.set4 i x).s1 ∧ (s.push i x).now.s2 = (s.now.set4 i x).s2 ∧ (s.push i x).now.s3 = (s.now.set4 i x).s3 := by
  have h : (s.push i x).now = (s.loose.foldl (fun t x => t.set4 x.1 x.2) (s.push i x)).set4 i x := by simp [CS.now, CS.push, List.foldl_append]
  have : ∀ (l : List (Int × List UInt8)) (t : CS) (m : List (Int × List UInt8)), (l.foldl (fun t x => t.set4 x.1 x.2) { t with loose := m }) = { (l.foldl (fun t x => t.set4 x.1 x.2) t) with loose := m } := by
    intro l
    induction l with
    | nil => intro t m; rfl
    | cons x l ih =>
      intro t m
      rw [List.foldl_cons, List.foldl_cons, ← ih]
      congr 1
      unfold CS.set4
      (repeat' split) <;> rfl
  have h2 : s.loose.foldl (fun t x => t.set4 x.1 x.2) (s.push i x) = { s.now with loose := s.loose ++ [(i, x)] } := this s.loose s _
  rw [h, h2]
  unfold CS.set4
  (repeat' split) <;> exact ⟨rfl, rfl, rfl, rfl⟩

/-- Cells that are up, and stay so. -/
structure Calm (s : CS) (i : Nat) : Prop where
  ok : s.ok
  down : s.down = false
  crash : s.crash = 0
  c0 : 0 ≤ s.count
  ci : s.count ≤ i
  len : s.loose.length ≤ i
theorem Calm.up {s : CS} {i : Nat} (h : Calm s i) : Calm s (i + 1) := ⟨h.ok, h.down, h.crash, h.c0, by have := h.ci; omega, by have := h.len; omega⟩
theorem Calm.bump {s : CS} {i : Nat} (h : Calm s i) (hi : i < 1000) : s.bump.down = false := by
  have := h.c0; have := h.ci
  show (IntKind.i64.wrap (s.count + 1) == s.crash) = false
  rw [wrap64 _ (by omega) (by omega), h.crash]
  simp; omega
theorem Calm.write {s : CS} {i : Nat} (h : Calm s i) (hi : i < 1000) {k : Int} (h0 : 0 ≤ k) (h4 : k < 4) (x : List UInt8) (r : Bool) : s.writeR k = 0 ∧ s.writeS k x = s.bump.push k x ∧ s.writeB k r = true ∧ Calm (s.bump.push k x) (i + 1) := by
  have hb := h.bump hi
  have he : s.atE k = none := by unfold CS.atE; rw [h.down, if_neg (by simp), if_neg (by omega), if_neg (by omega)]
  have := h.c0; have := h.ci; have := h.len
  have hw : s.bump.count = s.count + 1 := wrap64 _ (by omega) (by omega)
  refine ⟨by simp only [CS.writeR, he, hb]; rfl, by simp only [CS.writeS, he, hb]; rfl, by simp only [CS.writeB, he, hb]; rfl, ⟨⟨?_, ?_⟩, hb, h.crash, ?_, ?_, ?_⟩⟩
  · intro y hy
    rcases List.mem_append.1 hy with hy | hy
    · exact h.ok.1 y hy
    · rw [List.mem_singleton] at hy; subst hy; exact ⟨h0, h4⟩
  · show (s.loose ++ [(k, x)]).length < _
    simp; omega
  · show 0 ≤ s.bump.count
    omega
  · show s.bump.count ≤ _
    omega
  · show (s.loose ++ [(k, x)]).length ≤ _
    simp; omega
end Go.Proofs.Tryd
