/- CellsRuns: what is done in one case. -/
import Derived.Test.YtihnaonainhjgaaDoorRunsA
set_option linter.unusedVariables false
set_option linter.unusedSimpArgs false
namespace Go.Proofs.Tryd
open Go.Ab
set_option maxHeartbeats 8000000 in
theorem body_w0 (l : List ActV) (i : Nat) (c : CS) (r1 r2 : Bool) (dw k : Int) (s : List UInt8) (n : Int) (keep : List Bool) (hd : dw = 0) (hi' : i < l.length) (hi3 : i < 1000) (hc : Run c i) (hk : k ≤ 9223372036854775807) (hnn : n ≤ 9223372036854775807)
    (hat : (l.map encAct)[((i : Int)).toNat]? = some (encAct ⟨dw, k, s, n, keep⟩)) {K : Exit → Env → Mem → Prop} (hret : ∀ env mem, env 4 = .bool true → K .ret env mem)
    (hnext : ∀ c' b1 b2 env mem, Run c' (i + 1) → Le (cfM 166 [] []) ⟨env, mem⟩ ⟨envOf (eW l ⟨i + 1, c', b1, b2⟩), memOf (m3 ⟨i + 1, c', b1, b2⟩)⟩ → K .normal env mem) :
    vcCR (cfM 166 [] []) outerR (envOf (eW l ⟨i, c, r1, r2⟩)) (memOf (m3 ⟨i, c, r1, r2⟩)) K := by
  have hwr := wrap64 ((i : Int) + 1) (by omega) (by omega)
  have hcr := hc.relHi
  conv => whnf
  refine brd (fun h => ?_) (fun h => absurd (by rw [List.length_map]; exact Int.ofNat_lt.2 hi') h)
  clear h
  conv => whnf
  refine ⟨Int.natCast_nonneg i, _, hat, ?_⟩
  conv => whnf
  refine brd (fun h => ?_) (fun h => ?_)
  · conv => whnf
    refine PureOK.conv (awake23_ok) (by repeat' (first | rfl | trivial | apply And.intro)) ?_
    conv => whnf
    exact hret _ _ rfl
  conv => whnf
  refine ⟨Int.natCast_nonneg i, _, hat, ?_⟩
  conv => whnf
  refine brd (fun h => ?_) (fun h => ?_)
  · conv => whnf
    refine PureOK.conv (awake23_ok) (by repeat' (first | rfl | trivial | apply And.intro)) ?_
    conv => whnf
    exact hret _ _ rfl
  rw [List.length_map] at h
  dsimp only at h
  have hkeep : keep.length < 1000000 := by omega
  conv => whnf
  refine ⟨Int.natCast_nonneg i, _, hat, ?_⟩
  conv => whnf
  refine bri (fun h => ?_) (fun h => absurd (show dw = 0 from hd) h)
  conv => whnf
  obtain ⟨e1, e2, e3⟩ := hc.write hi3 k s
  have hln := hc.len
  have hw := write_ok c r1 k s (by omega)
  have hv := rwrite_ok (rel c) r2 k s hcr (by show c.loose.length < _; omega)
  rw [e1, e2] at hv
  clear e1 e2
  revert e3 hw hv
  generalize c.writeS k s = c'
  generalize c.writeB k r1 = b1
  generalize (rel c).rwriteB k r2 = b2
  generalize c.writeR k = e
  intro e3 hw hv
  refine DrawOK.intro3 ty_ok (by kernel_rfl) [0, 1, 2, 3, 4, 5, 6, 7, 8, 9, 10, 13, 14, 15, 16, 17, 18, 19, 20, 21, 22, 23] [11, 12, 24, 25] [] (by kernel_rfl) ?_
  conv => whnf
  refine ⟨Int.natCast_nonneg i, _, hat, ?_⟩
  conv => whnf
  refine ⟨Int.natCast_nonneg i, _, hat, ?_⟩
  conv => whnf
  refine ⟨Int.natCast_nonneg i, _, hat, ?_⟩
  conv => whnf
  refine ⟨Int.natCast_nonneg i, _, hat, ?_⟩
  conv => whnf
  refine ⟨rfl, ?_⟩
  conv => whnf
  refine CallOK.renL (hw) [(1000, 18), (1001, 518)] [] (by first | rfl | (simp only [mupd_memOf]; rfl)) rfl rfl rfl rfl rfl ?_
  rintro _ _ ⟨rfl, rfl⟩
  refine ⟨_, _, cellsAt 18 518 c' b1 1 ++ refAt 20 520 (rel c) r2 0, rfl, rfl, rfl, ?_⟩
  conv => whnf
  refine ⟨trivial, ?_⟩
  conv => whnf
  refine PureOK.conv (num_ok _) (by repeat' (first | rfl | trivial | apply And.intro)) ?_
  conv => whnf
  refine ⟨trivial, ?_⟩
  conv => whnf
  refine CallOK.renL (hv) [(1000, 20), (1001, 520)] [] (by first | rfl | (simp only [mupd_memOf]; rfl)) rfl rfl rfl rfl rfl ?_
  rintro _ _ ⟨rfl, rfl⟩
  refine ⟨_, _, cellsAt 18 518 c' b1 1 ++ refAt 20 520 (rel c') b2 1, rfl, rfl, rfl, ?_⟩
  conv => whnf
  refine ⟨trivial, ?_⟩
  conv => whnf
  refine ⟨trivial, ?_⟩
  conv => whnf
  refine brn (fun h => absurd rfl h) (fun _ => ?_)
  conv => whnf
  refine innerR_ok l ⟨i, c', b1, b2⟩ e3 ?_ ?_
  · refine Le.conv (by repeat' (first | rfl | trivial | apply And.intro)) (by (repeat' (first | trivial | apply And.intro)) <;> (first | exact BTh.same _ _ _ _ _ rfl (Nat.le_of_ble_eq_true rfl) | (refine BTh.rowL rfl (by first | rfl | trivial) ?_; (repeat' (first | rfl | trivial | apply And.intro)); done) | exact BTh.rowP rfl (by first | rfl | trivial) (by simp [*]) | exact BTh.tok _ _ _ _ _ rfl rfl | exact BTh.new _ _ rfl rfl))
  · conv => whnf
    refine draw_weak (e34 l ⟨i, c', b1, b2⟩) (m3 ⟨i, c', b1, b2⟩) (region34_ok l ⟨i, c', b1, b2⟩) ?_
    conv => whnf
    refine hnext c' b1 b2 _ _ e3 ?_
    refine Le.conv (by repeat' (first | rfl | trivial | exact congrArg (V.int .i64) hwr | apply And.intro)) (by (repeat' (first | trivial | apply And.intro)) <;> (first | exact BTh.same _ _ _ _ _ rfl (Nat.le_of_ble_eq_true rfl) | (refine BTh.rowL rfl (by first | rfl | trivial) ?_; (repeat' (first | rfl | trivial | apply And.intro)); done) | exact BTh.rowP rfl (by first | rfl | trivial) (by simp [*]) | exact BTh.tok _ _ _ _ _ rfl rfl | exact BTh.new _ _ rfl rfl))
end Go.Proofs.Tryd
