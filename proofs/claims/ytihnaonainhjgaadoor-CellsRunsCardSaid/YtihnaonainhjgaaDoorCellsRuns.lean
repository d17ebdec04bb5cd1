/- CellsRuns. -/
import Derived.Test.YtihnaonainhjgaaDoorRunsB
import Derived.Test.YtihnaonainhjgaaDoorRunsC
import Derived.Test.YtihnaonainhjgaaDoorRunsD
import Derived.Test.YtihnaonainhjgaaDoorRunsE
import Derived.Test.YtihnaonainhjgaaDoorRunsF
import Derived.Test.YtihnaonainhjgaaDoorRunsG
import Derived.Test.YtihnaonainhjgaaDoorRunsH
import Derived.Test.YtihnaonainhjgaaDoorRunsI
set_option linter.unusedVariables false
set_option linter.unusedSimpArgs false
namespace Go.Proofs.Tryd
open Go.Ab
theorem outerR_ok (l : List ActV) (hl : ∀ a ∈ l, a.i ≤ 9223372036854775807 ∧ a.plan.1 ≤ 9223372036854775807) (h60 : l.length < 1000) (c0 : CS) (h0 : Run c0 0) {env : Env} {mem : Mem} {Q : Exit → Env → Mem → Prop}
    (hle : Le (cfM 166 [] []) ⟨env, mem⟩ ⟨envOf (eW l ⟨0, c0, false, false⟩), memOf (m3 ⟨0, c0, false, false⟩)⟩) (hret' : ∀ env mem, Q .ret (upd env 4 (.bool true)) mem) (hQ : ∀ env mem, Q (.exit 0) env mem) :
    LoopOK (cfM 166 [] []) (vcCR (cfM 166 [] []) outerR) env mem Q := by
  refine LoopOK.intro (fun q : W3 => q.i ≤ l.length ∧ Run q.p q.i) (eW l) m3 (fun q => l.length - q.i) ⟨0, c0, false, false⟩ ⟨Nat.zero_le _, h0⟩ hle ?_
  rintro ⟨i, c, r1, r2⟩ ⟨hi, hc⟩
  dsimp only at hi hc
  rcases Nat.lt_or_ge i l.length with hi' | hge
  · have hi3 : i < 1000 := by omega
    have hx := hl _ (List.getElem_mem hi')
    have hat : (l.map encAct)[((i : Int)).toNat]? = some (encAct l[i]) := by simp [hi']
    revert hx hat
    generalize l[i] = a
    obtain ⟨dw, k, s, n, keep⟩ := a
    rintro ⟨hk, hnn⟩ hat
    dsimp only at hk hnn
    have hstep : ∀ {K : Exit → Env → Mem → Prop}, (∀ env mem, env 4 = .bool true → K .ret env mem) → (∀ c' b1 b2 env mem, Run c' (i + 1) → Le (cfM 166 [] []) ⟨env, mem⟩ ⟨envOf (eW l ⟨i + 1, c', b1, b2⟩), memOf (m3 ⟨i + 1, c', b1, b2⟩)⟩ → K .normal env mem) →
        vcCR (cfM 166 [] []) outerR (envOf (eW l ⟨i, c, r1, r2⟩)) (memOf (m3 ⟨i, c, r1, r2⟩)) K := fun {K} hret hnext => by
      by_cases d0 : dw = 0
      · exact body_w0 l i c r1 r2 dw k s n keep d0 hi' hi3 hc hk hnn hat hret hnext
      by_cases d1 : dw = 1
      · exact body_w1 l i c r1 r2 dw k s n keep d1 hi' hi3 hc hk hnn hat hret hnext
      by_cases d2 : dw = 2
      · exact body_w2 l i c r1 r2 dw k s n keep d2 hi' hi3 hc hk hnn hat hret hnext
      by_cases d3 : dw = 3
      · exact body_w3 l i c r1 r2 dw k s n keep d3 hi' hi3 hc hk hnn hat hret hnext
      by_cases d4 : dw = 4
      · exact body_sync l i c r1 r2 dw k s n keep d4 hi' hi3 hc hk hnn hat hret hnext
      by_cases d5 : dw = 5
      · exact body_tear l i c r1 r2 dw k s n keep d5 hi' hi3 hc hk hnn hat hret hnext
      by_cases d6 : dw = 6
      · exact body_fall l i c r1 r2 dw k s n keep d6 hi' hi3 hc hk hnn hat hret hnext
      exact body_none l i c r1 r2 dw k s n keep ⟨d0, d1, d2, d3, d4, d5, d6⟩ hi' hi3 hc hk hnn hat hret hnext
    exact hstep (fun env mem h4 => by have := hret' env mem; rw [upd_same h4] at this; exact this) (fun c' b1 b2 env mem hr hle => ⟨_, _, hle, ⟨⟨i + 1, c', b1, b2⟩, ⟨hi', hr⟩, rfl, rfl⟩, by dsimp only; omega⟩)
  · conv => whnf
    refine brd (fun h => absurd h (by rw [List.length_map]; show ¬ ((i : Int) < l.length); omega)) (fun h => ?_)
    conv => whnf
    exact hQ _ _
set_option maxHeartbeats 8000000 in
theorem cellsRuns_ok (p : Int × List Bool) (l : List ActV) (hp : p.1 ≤ 9223372036854775807) (hl : ∀ a ∈ l, a.i ≤ 9223372036854775807 ∧ a.plan.1 ≤ 9223372036854775807) : PureOK prog G0 4 [plan p, .list 5 (l.map encAct)] (.bool true) := by
  refine PureOK.body (cf := cfM 166 [] []) ty_ok (fn := f4) ⟨func4, rfl, rfl, by kernel_rfl⟩ rfl (Nat.le_of_ble_eq_true rfl) ?_
  conv => whnf
  refine brd (fun h => ?_) (fun h => ?_)
  · conv => whnf
    refine PureOK.conv (awake23_ok) (by repeat' (first | rfl | trivial | apply And.intro)) ?_
    conv => whnf
    refine RetOK.now ?_
    conv => whnf
    exact RetV.conv (by repeat' (first | rfl | trivial | apply And.intro))
  rw [List.length_map] at h
  conv => whnf
  refine DrawOK.intro3 ty_ok (by kernel_rfl) [0, 2] [1, 3, 4, 5] [2] (by kernel_rfl) ?_
  conv => whnf
  refine ⟨rfl, ?_⟩
  conv => whnf
  refine CallOK.renL (new_ok p) [] [(500, 518), (5, 18)] (by first | rfl | (simp only [mupd_memOf]; rfl)) rfl rfl rfl rfl rfl ?_
  rintro _ _ ⟨rfl, rfl⟩
  refine ⟨_, _, (2, .row 0 2 [plan p]) :: cellsAt 18 518 (csN p.1) false 0, rfl, rfl, rfl, ?_⟩
  conv => whnf
  refine ⟨⟨rfl, trivial⟩, ?_⟩
  conv => whnf
  obtain ⟨hn1, hn2⟩ := Run.new p.1 hp
  have hnc := newCells_ok p
  rw [← hn1] at hnc
  refine CallOK.renL (hnc) [] [(507, 520), (7, 20)] (by first | rfl | (simp only [mupd_memOf]; rfl)) rfl rfl rfl rfl rfl ?_
  rintro _ _ ⟨rfl, rfl⟩
  refine ⟨_, _, (2, .row 0 2 [plan p]) :: cellsAt 18 518 (csN p.1) false 0 ++ refAt 20 520 (rel (csN p.1)) false 0, rfl, rfl, rfl, ?_⟩
  conv => whnf
  refine ⟨⟨rfl, trivial⟩, ?_⟩
  conv => whnf
  refine ⟨⟨rfl, trivial⟩, ?_⟩
  conv => whnf
  refine ⟨⟨rfl, trivial⟩, ?_⟩
  conv => whnf
  refine outerR_ok l hl (by omega) (csN p.1) hn2 ?_ (fun env mem => ?_) (fun env mem => ?_)
  · refine Le.conv (by repeat' (first | rfl | trivial | apply And.intro)) (by (repeat' (first | trivial | apply And.intro)) <;> (first | exact BTh.same _ _ _ _ _ rfl (Nat.le_of_ble_eq_true rfl) | (refine BTh.rowL rfl (by first | rfl | trivial) ?_; (repeat' (first | rfl | trivial | apply And.intro)); done) | exact BTh.rowP rfl (by first | rfl | trivial) (by simp [*]) | exact BTh.tok _ _ _ _ _ rfl rfl | exact BTh.new _ _ rfl rfl))
  · conv => whnf
    refine RetOK.now ?_
    conv => whnf
    exact RetV.conv (by repeat' (first | rfl | trivial | apply And.intro))
  · conv => whnf
    refine PureOK.conv (awake23_ok) (by repeat' (first | rfl | trivial | apply And.intro)) ?_
    conv => whnf
    refine RetOK.now ?_
    conv => whnf
    exact RetV.conv (by repeat' (first | rfl | trivial | apply And.intro))
end Go.Proofs.Tryd
