/- CellsRuns: the inner loop. -/
import Derived.Test.YtihnaonainhjgaaDoorRunsLaw
set_option linter.unusedVariables false
set_option linter.unusedSimpArgs false
namespace Go.Proofs.Tryd
open Go.Ab

structure ActV where
  do_ : Int
  i : Int
  s : List UInt8
  plan : Int × List Bool
def encAct (a : ActV) : V := .agg [.int .i64 a.do_, .int .i64 a.i, .str a.s, .int .i64 a.plan.1, .list 1 (a.plan.2.map .bool)]
structure W3 where
  i : Nat
  p : CS
  r1 : Bool
  r2 : Bool
def m3 (q : W3) : List (Nat × Blk) := cellsAt 18 518 q.p q.r1 0 ++ refAt 20 520 (rel q.p) q.r2 0
noncomputable def innerR : Code := loopK 1 f4
def e3 (l : List ActV) (q : W3) (j : Nat) : List (Nat × V) := [(1, .list 5 (l.map encAct)), (5, .ptr 18 0 0 0), (6, .ptr 20 0 0 0), (7, .int .i64 q.i), (8, .int .i64 ((j : Int) - 1))]
theorem innerR_ok (l : List ActV) (q : W3) (hr : Run q.p (q.i + 1)) {env : Env} {mem : Mem} {Q : Exit → Env → Mem → Prop}
    (hle : Le (cfM 166 [] []) ⟨env, mem⟩ ⟨envOf (e3 l q 0), memOf (m3 q)⟩) (hQ : Q (.exit 3) (upd (upd (upd (envOf (e3 l q 6)) 123 (.int .i64 (((6 : Nat) : Int) - 1))) 124 (.bool (decide ((((6 : Nat) : Int) - 1) < 5)))) 124 (.bool false)) (memOf (m3 q))) :
    LoopOK (cfM 166 [] []) (vcCR (cfM 166 [] []) innerR) env mem Q := by
  refine LoopOK.intro (fun j : Nat => j ≤ 6) (fun j => e3 l q j) (fun _ => m3 q) (fun j => 6 - j) 0 (by omega) hle ?_
  intro j hj
  have hwj : IntKind.i64.wrap ((j : Int) - 1 + 1) = ((j + 1 : Nat) : Int) - 1 := by rw [wrap64 _ (by omega) (by omega)]; omega
  conv => whnf
  refine brd (fun h => ?_) (fun h => ?_)
  · have hj6 : j + 1 ≤ 6 := by omega
    conv => whnf
    refine CallOK.renL (read_ok q.p q.r1 _ hr.ok) [(1000, 18), (1001, 518)] [] (by first | rfl | (simp only [mupd_memOf]; rfl)) rfl rfl rfl rfl rfl ?_
    rintro _ _ ⟨rfl, rfl⟩
    refine ⟨_, _, m3 q, rfl, rfl, rfl, ?_⟩
    conv => whnf
    refine CallOK.renL (rread_ok (rel q.p) q.r2 _ hr.relOk) [(1000, 20), (1001, 520)] [] (by first | rfl | (simp only [mupd_memOf]; rfl)) rfl rfl rfl rfl rfl ?_
    rintro _ _ ⟨rfl, rfl⟩
    refine ⟨_, _, m3 q, rfl, rfl, rfl, ?_⟩
    conv => whnf
    rw [rel_readR]
    conv => whnf
    refine brsn (fun h => absurd rfl h) (fun _ => ?_)
    conv => whnf
    refine PureOK.conv (num_ok _) (by repeat' (first | rfl | trivial | apply And.intro)) ?_
    conv => whnf
    refine brn (fun h => absurd rfl h) (fun _ => ?_)
    conv => whnf
    refine Head.next (j + 1) hj6 (by omega) (Le.conv (by repeat' (first | rfl | trivial | exact congrArg (V.int .i64) hwj | apply And.intro)) (by (repeat' (first | trivial | apply And.intro)) <;> (first | exact BTh.same _ _ _ _ _ rfl (Nat.le_of_ble_eq_true rfl) | (refine BTh.rowL rfl (by first | rfl | trivial) ?_; (repeat' (first | rfl | trivial | apply And.intro)); done) | exact BTh.rowP rfl (by first | rfl | trivial) (by simp [*]) | exact BTh.tok _ _ _ _ _ rfl rfl | exact BTh.new _ _ rfl rfl)))
  · have : j = 6 := by omega
    subst this
    conv => whnf
    exact hQ
def eW (l : List ActV) (q : W3) : List (Nat × V) := [(1, .list 5 (l.map encAct)), (5, .ptr 18 0 0 0), (6, .ptr 20 0 0 0), (7, .int .i64 q.i)]
noncomputable def outerR : Code := loopK 0 f4
/-- What a region leaves, said with less. -/
theorem draw_weak {cf : Cfg} {id : Nat} {ops : Array Oper} {env : Env} {mem : Mem} {Q : Exit → Env → Mem → Prop} (E : List (Nat × V)) (M : List (Nat × Blk)) (h : DrawOK cf id ops env mem fun e env' mem' => e = .normal ∧ Le cf ⟨env', mem'⟩ ⟨envOf E, memOf M⟩) (hQ : Q .normal (envOf E) (memOf M)) : DrawOK cf id ops env mem Q :=
  ⟨fun c0 w0 c a w hi Q' hq => h.ok c0 w0 c a w hi Q' fun e env' mem' c' a' w' hi' hp => by
    obtain ⟨rfl, hle⟩ := hp
    obtain ⟨c2, hi2⟩ := hle _ _ _ _ _ hi'
    exact hq _ _ _ _ _ _ hi2 hQ⟩
def drawsOf : Code → List (Array Oper)
  | .region _ ops true => [ops]
  | .seq a b => drawsOf a ++ drawsOf b
  | .cond _ a b => drawsOf a ++ drawsOf b
  | .block _ a => drawsOf a
  | .scope a => drawsOf a
  | .loop a => drawsOf a
  | _ => []
noncomputable def ops34 : Array Oper := match nth (drawsOf (bodyOf f4)) 2 with | some o => o | none => #[]
noncomputable def env34 (l : List ActV) (q : W3) : Env := upd (upd (upd (envOf (e3 l q 6)) 123 (.int .i64 (((6 : Nat) : Int) - 1))) 124 (.bool (decide ((((6 : Nat) : Int) - 1) < 5)))) 124 (.bool false)
def e34 (l : List ActV) (q : W3) : List (Nat × V) := [(1, .list 5 (l.map encAct)), (5, .ptr 18 0 0 0), (6, .ptr 20 0 0 0), (7, .int .i64 q.i), (164, .bool false)]
theorem region34_ok (l : List ActV) (q : W3) : DrawOK (cfM 166 [] []) 34 ops34 (env34 l q) (memOf (m3 q)) fun e env' mem' => e = .normal ∧ Le (cfM 166 [] []) ⟨env', mem'⟩ ⟨envOf (e34 l q), memOf (m3 q)⟩ := by
  refine DrawOK.intro ty_ok (by kernel_rfl) 17 (by kernel_rfl) ?_
  conv => whnf
  refine ⟨.bool q.p.down, fun m hm => ?_, ?_⟩
  · have h1 := hm 18 _ rfl
    have h2 := hm 518 _ rfl
    rw [known2 h1 h2]
    exact CallOK.look (down_ok q.p q.r1) [(1000, 18), (1001, 518)] rfl rfl rfl rfl rfl ⟨⟨_, rfl, rfl⟩, ⟨_, rfl, rfl⟩, trivial⟩
  conv => whnf
  refine brb (fun h => by simp [rel] at h) (fun _ => ?_)
  conv => whnf
  refine ⟨.int .i64 q.p.loose.length, fun m hm => ?_, ?_⟩
  · have h1 := hm 18 _ rfl
    have h2 := hm 518 _ rfl
    rw [known2 h1 h2]
    exact CallOK.look (loose_ok q.p q.r1) [(1000, 18), (1001, 518)] rfl rfl rfl rfl rfl ⟨⟨_, rfl, rfl⟩, ⟨_, rfl, rfl⟩, trivial⟩
  conv => whnf
  have e : ((q.p.loose.length : Int) != (((rel q.p).loose.map encC).length : Int)) = false := by rw [List.length_map]; show ((q.p.loose.length : Int) != (q.p.loose.length : Int)) = false; simp
  refine ⟨rfl, ?_⟩
  refine Le.conv (by repeat' (first | rfl | trivial | exact congrArg V.bool e | apply And.intro)) (by (repeat' (first | trivial | apply And.intro)) <;> (first | exact BTh.same _ _ _ _ _ rfl (Nat.le_of_ble_eq_true rfl) | (refine BTh.rowL rfl (by first | rfl | trivial) ?_; (repeat' (first | rfl | trivial | apply And.intro)); done) | exact BTh.rowP rfl (by first | rfl | trivial) (by simp [*]) | exact BTh.tok _ _ _ _ _ rfl rfl | exact BTh.new _ _ rfl rfl))
end Go.Proofs.Tryd
