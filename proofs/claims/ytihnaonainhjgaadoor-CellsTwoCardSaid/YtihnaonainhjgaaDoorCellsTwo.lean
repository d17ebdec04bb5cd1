/- CellsTwo. -/
import Derived.Test.YtihnaonainhjgaaDoorLaw23
set_option linter.unusedVariables false
namespace Go.Proofs.Tryd
open Go.Ab

def strs4 (s : CS) : List V := [.str s.now.s0, .str s.now.s1, .str s.now.s2, .str s.now.s3]
structure W2 where
  i : Nat
  a : CS
  b : CS
  ra : Bool
  rb : Bool
def m2 (q : W2) : List (Nat × Blk) := cellsAt 28 528 q.a q.ra 0 ++ cellsAt 30 530 q.b q.rb 0 ++ [(37, .row 0 1 (strs4 q.a)), (38, .row 0 1 (strs4 q.b))]
noncomputable def innerC : Code := loopK 1 f3
def e2 (is : List UInt8) (l : List (List UInt8)) (q : W2) (j : Nat) : List (Nat × V) := [(0, .list 1 (is.map encB)), (1, .list 1 (l.map V.str)), (5, .ptr 28 0 0 0), (6, .ptr 30 0 0 0), (7, .msl 37 0 0 4), (8, .msl 38 0 0 4), (9, .int .i64 q.i), (11, .int .i64 j)]
theorem inner_ok (is : List UInt8) (l : List (List UInt8)) (q : W2) (ha : Calm q.a (q.i + 1)) (hb : Calm q.b (q.i + 1)) {env : Env} {mem : Mem} {Q : Exit → Env → Mem → Prop}
    (hle : Le (cfM 136 [] []) ⟨env, mem⟩ ⟨envOf (e2 is l q 0), memOf (m2 q)⟩) (hQ : Q (.exit 2) (upd (upd (upd (envOf (e2 is l q 4)) 97 (.int .i64 (4 : Nat))) 98 (.bool (decide (((4 : Nat) : Int) < 4)))) 98 (.bool false)) (memOf (m2 q))) :
    LoopOK (cfM 136 [] []) (vcCR (cfM 136 [] []) innerC) env mem Q := by
  refine LoopOK.intro (fun j : Nat => j ≤ 4) (fun j => e2 is l q j) (fun _ => m2 q) (fun j => 4 - j) 0 (by omega) hle ?_
  intro j hj
  have hwj := wrap64 ((j : Int) + 1) (by omega) (by omega)
  conv => whnf
  refine brd (fun h => ?_) (fun h => ?_)
  · have hj4 : j = 0 ∨ j = 1 ∨ j = 2 ∨ j = 3 := by omega
    rcases hj4 with rfl | rfl | rfl | rfl
    all_goals
      conv => whnf
      refine CallOK.renL (read_ok q.a q.ra _ ha.ok) [(1000, 28), (1001, 528)] [] (by first | rfl | (simp only [mupd_memOf]; rfl)) rfl rfl rfl rfl rfl ?_
      rintro _ _ ⟨rfl, rfl⟩
      refine ⟨_, _, m2 q, rfl, rfl, rfl, ?_⟩
      conv => whnf
      refine CallOK.renL (read_ok q.b q.rb _ hb.ok) [(1000, 30), (1001, 530)] [] (by first | rfl | (simp only [mupd_memOf]; rfl)) rfl rfl rfl rfl rfl ?_
      rintro _ _ ⟨rfl, rfl⟩
      refine ⟨_, _, m2 q, rfl, rfl, rfl, ?_⟩
      conv => whnf
      rw [readR_of ha.down (by decide) (by decide), readR_of hb.down (by decide) (by decide)]
      conv => whnf
      refine ⟨by decide, ?_⟩
      conv => whnf
      refine brsn (fun h => absurd rfl h) (fun _ => ?_)
      conv => whnf
      refine ⟨by decide, ?_⟩
      conv => whnf
      refine brsn (fun h => absurd rfl h) (fun _ => ?_)
      conv => whnf
      refine PureOK.conv (num_ok _) (by repeat' (first | rfl | trivial | apply And.intro)) ?_
      conv => whnf
      refine PureOK.conv (num_ok _) (by repeat' (first | rfl | trivial | apply And.intro)) ?_
      conv => whnf
    · refine Head.next 1 (by omega) (by omega) (Le.conv (by repeat' (first | rfl | trivial | exact congrArg (V.int .i64) hwj | apply And.intro)) (by (repeat' (first | trivial | apply And.intro)) <;> (first | exact BTh.same _ _ _ _ _ rfl (Nat.le_of_ble_eq_true rfl) | (refine BTh.rowL rfl (by first | rfl | trivial) ?_; (repeat' (first | rfl | trivial | apply And.intro)); done) | exact BTh.rowP rfl (by first | rfl | trivial) (by simp [*]) | exact BTh.tok _ _ _ _ _ rfl rfl | exact BTh.new _ _ rfl rfl)))
    · refine Head.next 2 (by omega) (by omega) (Le.conv (by repeat' (first | rfl | trivial | exact congrArg (V.int .i64) hwj | apply And.intro)) (by (repeat' (first | trivial | apply And.intro)) <;> (first | exact BTh.same _ _ _ _ _ rfl (Nat.le_of_ble_eq_true rfl) | (refine BTh.rowL rfl (by first | rfl | trivial) ?_; (repeat' (first | rfl | trivial | apply And.intro)); done) | exact BTh.rowP rfl (by first | rfl | trivial) (by simp [*]) | exact BTh.tok _ _ _ _ _ rfl rfl | exact BTh.new _ _ rfl rfl)))
    · refine Head.next 3 (by omega) (by omega) (Le.conv (by repeat' (first | rfl | trivial | exact congrArg (V.int .i64) hwj | apply And.intro)) (by (repeat' (first | trivial | apply And.intro)) <;> (first | exact BTh.same _ _ _ _ _ rfl (Nat.le_of_ble_eq_true rfl) | (refine BTh.rowL rfl (by first | rfl | trivial) ?_; (repeat' (first | rfl | trivial | apply And.intro)); done) | exact BTh.rowP rfl (by first | rfl | trivial) (by simp [*]) | exact BTh.tok _ _ _ _ _ rfl rfl | exact BTh.new _ _ rfl rfl)))
    · refine Head.next 4 (by omega) (by omega) (Le.conv (by repeat' (first | rfl | trivial | exact congrArg (V.int .i64) hwj | apply And.intro)) (by (repeat' (first | trivial | apply And.intro)) <;> (first | exact BTh.same _ _ _ _ _ rfl (Nat.le_of_ble_eq_true rfl) | (refine BTh.rowL rfl (by first | rfl | trivial) ?_; (repeat' (first | rfl | trivial | apply And.intro)); done) | exact BTh.rowP rfl (by first | rfl | trivial) (by simp [*]) | exact BTh.tok _ _ _ _ _ rfl rfl | exact BTh.new _ _ rfl rfl)))
  · have : j = 4 := by omega
    subst this
    conv => whnf
    exact hQ
set_option maxHeartbeats 4000000 in
theorem cellsTwo_ok (is : List UInt8) (l : List (List UInt8)) : PureOK prog G0 3 [.list 1 (is.map encB), .list 1 (l.map V.str)] (.bool true) := by
  refine PureOK.body (cf := cfM 136 [] []) ty_ok (fn := f3) ⟨func3, rfl, rfl, by kernel_rfl⟩ rfl (Nat.le_of_ble_eq_true rfl) ?_
  conv => whnf
  refine brd (fun h => ?_) (fun h30 => ?_)
  · conv => whnf
    refine PureOK.conv (awake23_ok) (by repeat' (first | rfl | trivial | apply And.intro)) ?_
    conv => whnf
    refine RetOK.now ?_
    conv => whnf
    exact RetV.conv (by repeat' (first | rfl | trivial | apply And.intro))
  conv => whnf
  refine brd (fun h => ?_) (fun hlen => ?_)
  · conv => whnf
    refine PureOK.conv (awake23_ok) (by repeat' (first | rfl | trivial | apply And.intro)) ?_
    conv => whnf
    refine RetOK.now ?_
    conv => whnf
    exact RetV.conv (by repeat' (first | rfl | trivial | apply And.intro))
  conv => whnf
  rw [List.length_map] at h30
  rw [List.length_map, List.length_map] at hlen
  refine CallOK.weakArgs (args' := [plan (0, [])]) ?_ (VThL.conv (by repeat' (first | rfl | trivial | apply And.intro)))
  refine CallOK.renL (new_ok (0, [])) [] [(500, 528), (5, 28)] (by first | rfl | (simp only [mupd_memOf]; rfl)) rfl rfl rfl rfl rfl ?_
  rintro _ _ ⟨rfl, rfl⟩
  refine ⟨_, _, cellsAt 28 528 (csN 0) false 0, rfl, rfl, rfl, ?_⟩
  conv => whnf
  refine CallOK.weakArgs (args' := [plan (0, [])]) ?_ (VThL.conv (by repeat' (first | rfl | trivial | apply And.intro)))
  refine CallOK.renL (new_ok (0, [])) [] [(500, 530), (5, 30)] (by first | rfl | (simp only [mupd_memOf]; rfl)) rfl rfl rfl rfl rfl ?_
  rintro _ _ ⟨rfl, rfl⟩
  refine ⟨_, _, cellsAt 28 528 (csN 0) false 0 ++ cellsAt 30 530 (csN 0) false 0, rfl, rfl, rfl, ?_⟩
  conv => whnf
  refine DrawOK.intro ty_ok (by kernel_rfl) 4 (by kernel_rfl) ?_
  conv => whnf
  refine ⟨⟨rfl, by decide, by decide +kernel, by decide⟩, ?_⟩
  conv => whnf
  refine ⟨⟨rfl, by decide, by decide +kernel, by decide⟩, ?_⟩
  conv => whnf
  have hcalm : Calm (csN 0) 0 := ⟨S0_ok 0, rfl, rfl, Int.le_refl _, Int.le_refl _, Nat.le_refl _⟩
  refine LoopOK.intro (fun q : W2 => q.i ≤ is.length ∧ Calm q.a q.i ∧ Calm q.b q.i)
    (fun q => [(0, .list 1 (is.map encB)), (1, .list 1 (l.map V.str)), (5, .ptr 28 0 0 0), (6, .ptr 30 0 0 0), (7, .msl 37 0 0 4), (8, .msl 38 0 0 4), (9, .int .i64 q.i)])
    m2 (fun q => is.length - q.i) ⟨0, csN 0, csN 0, false, false⟩ ⟨Nat.zero_le _, hcalm, hcalm⟩ ?_ ?_
  · refine Le.conv (by repeat' (first | rfl | trivial | apply And.intro)) (by (repeat' (first | trivial | apply And.intro)) <;> (first | exact BTh.same _ _ _ _ _ rfl (Nat.le_of_ble_eq_true rfl) | (refine BTh.rowL rfl (by first | rfl | trivial) ?_; (repeat' (first | rfl | trivial | apply And.intro)); done) | exact BTh.rowP rfl (by first | rfl | trivial) (by simp [*]) | exact BTh.tok _ _ _ _ _ rfl rfl | exact BTh.new _ _ rfl rfl))
  rintro ⟨i, sa, sb, ra, rb⟩ ⟨hi, ha, hb⟩
  dsimp only at hi ha hb
  conv => whnf
  refine brd (fun h => ?_) (fun h => ?_)
  · rw [List.length_map] at h
    dsimp only at h
    have hi' : i < is.length := by omega
    have hil : i < l.length := by omega
    have hat : (l.map V.str)[((i : Int)).toNat]? = some (.str l[i]) := by simp [hil]
    have hat2 : (is.map encB)[((i : Int)).toNat]? = some (encB is[i]) := by simp [hi']
    have hwr := wrap64 ((i : Int) + 1) (by omega) (by omega)
    have hub := is[i].toNat_lt
    revert hat hat2 hub
    generalize l[i] = v
    generalize is[i] = b
    intro hat hat2 hub
    conv => whnf
    refine ⟨Int.natCast_nonneg i, _, hat, ?_⟩
    conv => whnf
    refine brd (fun h => ?_) (fun h200 => ?_)
    · conv => whnf
      refine PureOK.conv (awake23_ok) (by repeat' (first | rfl | trivial | apply And.intro)) ?_
      conv => whnf
      refine RetOK.now ?_
      conv => whnf
      exact RetV.conv (by repeat' (first | rfl | trivial | apply And.intro))
    conv => whnf
    refine ⟨Int.natCast_nonneg i, _, hat2, ?_⟩
    conv => whnf
    refine ⟨by decide, ?_⟩
    conv => whnf
    refine ⟨by decide, ?_⟩
    conv => whnf
    have hk : ∃ k : Int, (k = 0 ∨ k = 1 ∨ k = 2 ∨ k = 3) ∧ (IntKind.i64.wrap ((IntKind.i64.wrap (b.toNat : Int)).tdiv 2)).tmod 4 = k := by
      refine ⟨_, ?_, rfl⟩
      rw [wrap64 (b.toNat : Int) (by omega) (by omega)]
      have h1 : ((b.toNat : Int)).tdiv 2 = ((b.toNat / 2 : Nat) : Int) := (Int.ofNat_tdiv _ _).symm
      rw [h1, wrap64 _ (by omega) (by omega)]
      have h2 : ((b.toNat / 2 : Nat) : Int).tmod 4 = ((b.toNat / 2 % 4 : Nat) : Int) := (Int.ofNat_tmod _ _).symm
      rw [h2]
      omega
    obtain ⟨k, hk4, hk⟩ := hk
    rw [hk]
    refine ⟨Int.natCast_nonneg i, _, hat2, ?_⟩
    conv => whnf
    refine ⟨by decide, ?_⟩
    conv => whnf
    have hla := ha.len
    have hlb := hb.len
    refine brd (fun h => ?_) (fun h => ?_)
    · rcases hk4 with rfl | rfl | rfl | rfl
      · conv => whnf
        refine ⟨Int.natCast_nonneg i, _, hat, ?_⟩
        conv => whnf
        refine ⟨by decide, ?_⟩
        conv => whnf
        refine ⟨Int.natCast_nonneg i, _, hat, ?_⟩
        conv => whnf
        obtain ⟨e1, e2, e3, hc⟩ := ha.write (by omega) (k := 0) (by decide) (by decide) v ra
        have hw := write_ok sa ra 0 v (by omega)
        rw [e1, e2, e3] at hw
        have hp := now_push sa.bump 0 v
        revert hc hw hp
        generalize hsa : sa.bump.push 0 v = sa'
        intro hc hw hp
        refine CallOK.renL (hw) [(1000, 28), (1001, 528)] [] (by first | rfl | (simp only [mupd_memOf]; rfl)) rfl rfl rfl rfl rfl ?_
        rintro _ _ ⟨rfl, rfl⟩
        refine ⟨_, _, cellsAt 28 528 sa' true 1 ++ cellsAt 30 530 sb rb 0 ++ [(37, .row 0 1 [.str v, .str sa.now.s1, .str sa.now.s2, .str sa.now.s3]), (38, .row 0 1 (strs4 sb))], rfl, rfl, rfl, ?_⟩
        conv => whnf
        refine PureOK.conv (num_ok _) (by repeat' (first | rfl | trivial | apply And.intro)) ?_
        conv => whnf
        refine inner_ok is l ⟨i, sa', sb, true, rb⟩ hc hb.up ?_ ?_
        · refine Le.conv (by repeat' (first | rfl | trivial | apply And.intro)) (by (repeat' (first | trivial | apply And.intro)) <;> (first | exact BTh.tok _ _ _ _ _ rfl rfl | (refine BTh.rowL rfl (by first | rfl | trivial) ?_; (repeat' (first | rfl | trivial | exact congrArg V.str hp.1.symm | exact congrArg V.str hp.2.1.symm | exact congrArg V.str hp.2.2.1.symm | exact congrArg V.str hp.2.2.2.symm | exact congrArg V.str (hp.1.trans (now_bump sa).1).symm | exact congrArg V.str (hp.2.1.trans (now_bump sa).2.1).symm | exact congrArg V.str (hp.2.2.1.trans (now_bump sa).2.2.1).symm | exact congrArg V.str (hp.2.2.2.trans (now_bump sa).2.2.2).symm | apply And.intro)); done)))
        · conv => whnf
          refine Head.next ⟨i + 1, sa', sb, true, rb⟩ ⟨hi', hc, hb.up⟩ (by dsimp only; omega) (Le.conv (by repeat' (first | rfl | trivial | exact congrArg (V.int .i64) hwr | apply And.intro)) (by (repeat' (first | trivial | apply And.intro)) <;> (first | exact BTh.same _ _ _ _ _ rfl (Nat.le_of_ble_eq_true rfl) | (refine BTh.rowL rfl (by first | rfl | trivial) ?_; (repeat' (first | rfl | trivial | apply And.intro)); done) | exact BTh.rowP rfl (by first | rfl | trivial) (by simp [*]) | exact BTh.tok _ _ _ _ _ rfl rfl | exact BTh.new _ _ rfl rfl)))
      · conv => whnf
        refine ⟨Int.natCast_nonneg i, _, hat, ?_⟩
        conv => whnf
        refine ⟨by decide, ?_⟩
        conv => whnf
        refine ⟨Int.natCast_nonneg i, _, hat, ?_⟩
        conv => whnf
        obtain ⟨e1, e2, e3, hc⟩ := ha.write (by omega) (k := 1) (by decide) (by decide) v ra
        have hw := write_ok sa ra 1 v (by omega)
        rw [e1, e2, e3] at hw
        have hp := now_push sa.bump 1 v
        revert hc hw hp
        generalize hsa : sa.bump.push 1 v = sa'
        intro hc hw hp
        refine CallOK.renL (hw) [(1000, 28), (1001, 528)] [] (by first | rfl | (simp only [mupd_memOf]; rfl)) rfl rfl rfl rfl rfl ?_
        rintro _ _ ⟨rfl, rfl⟩
        refine ⟨_, _, cellsAt 28 528 sa' true 1 ++ cellsAt 30 530 sb rb 0 ++ [(37, .row 0 1 [.str sa.now.s0, .str v, .str sa.now.s2, .str sa.now.s3]), (38, .row 0 1 (strs4 sb))], rfl, rfl, rfl, ?_⟩
        conv => whnf
        refine PureOK.conv (num_ok _) (by repeat' (first | rfl | trivial | apply And.intro)) ?_
        conv => whnf
        refine inner_ok is l ⟨i, sa', sb, true, rb⟩ hc hb.up ?_ ?_
        · refine Le.conv (by repeat' (first | rfl | trivial | apply And.intro)) (by (repeat' (first | trivial | apply And.intro)) <;> (first | exact BTh.tok _ _ _ _ _ rfl rfl | (refine BTh.rowL rfl (by first | rfl | trivial) ?_; (repeat' (first | rfl | trivial | exact congrArg V.str hp.1.symm | exact congrArg V.str hp.2.1.symm | exact congrArg V.str hp.2.2.1.symm | exact congrArg V.str hp.2.2.2.symm | exact congrArg V.str (hp.1.trans (now_bump sa).1).symm | exact congrArg V.str (hp.2.1.trans (now_bump sa).2.1).symm | exact congrArg V.str (hp.2.2.1.trans (now_bump sa).2.2.1).symm | exact congrArg V.str (hp.2.2.2.trans (now_bump sa).2.2.2).symm | apply And.intro)); done)))
        · conv => whnf
          refine Head.next ⟨i + 1, sa', sb, true, rb⟩ ⟨hi', hc, hb.up⟩ (by dsimp only; omega) (Le.conv (by repeat' (first | rfl | trivial | exact congrArg (V.int .i64) hwr | apply And.intro)) (by (repeat' (first | trivial | apply And.intro)) <;> (first | exact BTh.same _ _ _ _ _ rfl (Nat.le_of_ble_eq_true rfl) | (refine BTh.rowL rfl (by first | rfl | trivial) ?_; (repeat' (first | rfl | trivial | apply And.intro)); done) | exact BTh.rowP rfl (by first | rfl | trivial) (by simp [*]) | exact BTh.tok _ _ _ _ _ rfl rfl | exact BTh.new _ _ rfl rfl)))
      · conv => whnf
        refine ⟨Int.natCast_nonneg i, _, hat, ?_⟩
        conv => whnf
        refine ⟨by decide, ?_⟩
        conv => whnf
        refine ⟨Int.natCast_nonneg i, _, hat, ?_⟩
        conv => whnf
        obtain ⟨e1, e2, e3, hc⟩ := ha.write (by omega) (k := 2) (by decide) (by decide) v ra
        have hw := write_ok sa ra 2 v (by omega)
        rw [e1, e2, e3] at hw
        have hp := now_push sa.bump 2 v
        revert hc hw hp
        generalize hsa : sa.bump.push 2 v = sa'
        intro hc hw hp
        refine CallOK.renL (hw) [(1000, 28), (1001, 528)] [] (by first | rfl | (simp only [mupd_memOf]; rfl)) rfl rfl rfl rfl rfl ?_
        rintro _ _ ⟨rfl, rfl⟩
        refine ⟨_, _, cellsAt 28 528 sa' true 1 ++ cellsAt 30 530 sb rb 0 ++ [(37, .row 0 1 [.str sa.now.s0, .str sa.now.s1, .str v, .str sa.now.s3]), (38, .row 0 1 (strs4 sb))], rfl, rfl, rfl, ?_⟩
        conv => whnf
        refine PureOK.conv (num_ok _) (by repeat' (first | rfl | trivial | apply And.intro)) ?_
        conv => whnf
        refine inner_ok is l ⟨i, sa', sb, true, rb⟩ hc hb.up ?_ ?_
        · refine Le.conv (by repeat' (first | rfl | trivial | apply And.intro)) (by (repeat' (first | trivial | apply And.intro)) <;> (first | exact BTh.tok _ _ _ _ _ rfl rfl | (refine BTh.rowL rfl (by first | rfl | trivial) ?_; (repeat' (first | rfl | trivial | exact congrArg V.str hp.1.symm | exact congrArg V.str hp.2.1.symm | exact congrArg V.str hp.2.2.1.symm | exact congrArg V.str hp.2.2.2.symm | exact congrArg V.str (hp.1.trans (now_bump sa).1).symm | exact congrArg V.str (hp.2.1.trans (now_bump sa).2.1).symm | exact congrArg V.str (hp.2.2.1.trans (now_bump sa).2.2.1).symm | exact congrArg V.str (hp.2.2.2.trans (now_bump sa).2.2.2).symm | apply And.intro)); done)))
        · conv => whnf
          refine Head.next ⟨i + 1, sa', sb, true, rb⟩ ⟨hi', hc, hb.up⟩ (by dsimp only; omega) (Le.conv (by repeat' (first | rfl | trivial | exact congrArg (V.int .i64) hwr | apply And.intro)) (by (repeat' (first | trivial | apply And.intro)) <;> (first | exact BTh.same _ _ _ _ _ rfl (Nat.le_of_ble_eq_true rfl) | (refine BTh.rowL rfl (by first | rfl | trivial) ?_; (repeat' (first | rfl | trivial | apply And.intro)); done) | exact BTh.rowP rfl (by first | rfl | trivial) (by simp [*]) | exact BTh.tok _ _ _ _ _ rfl rfl | exact BTh.new _ _ rfl rfl)))
      · conv => whnf
        refine ⟨Int.natCast_nonneg i, _, hat, ?_⟩
        conv => whnf
        refine ⟨by decide, ?_⟩
        conv => whnf
        refine ⟨Int.natCast_nonneg i, _, hat, ?_⟩
        conv => whnf
        obtain ⟨e1, e2, e3, hc⟩ := ha.write (by omega) (k := 3) (by decide) (by decide) v ra
        have hw := write_ok sa ra 3 v (by omega)
        rw [e1, e2, e3] at hw
        have hp := now_push sa.bump 3 v
        revert hc hw hp
        generalize hsa : sa.bump.push 3 v = sa'
        intro hc hw hp
        refine CallOK.renL (hw) [(1000, 28), (1001, 528)] [] (by first | rfl | (simp only [mupd_memOf]; rfl)) rfl rfl rfl rfl rfl ?_
        rintro _ _ ⟨rfl, rfl⟩
        refine ⟨_, _, cellsAt 28 528 sa' true 1 ++ cellsAt 30 530 sb rb 0 ++ [(37, .row 0 1 [.str sa.now.s0, .str sa.now.s1, .str sa.now.s2, .str v]), (38, .row 0 1 (strs4 sb))], rfl, rfl, rfl, ?_⟩
        conv => whnf
        refine PureOK.conv (num_ok _) (by repeat' (first | rfl | trivial | apply And.intro)) ?_
        conv => whnf
        refine inner_ok is l ⟨i, sa', sb, true, rb⟩ hc hb.up ?_ ?_
        · refine Le.conv (by repeat' (first | rfl | trivial | apply And.intro)) (by (repeat' (first | trivial | apply And.intro)) <;> (first | exact BTh.tok _ _ _ _ _ rfl rfl | (refine BTh.rowL rfl (by first | rfl | trivial) ?_; (repeat' (first | rfl | trivial | exact congrArg V.str hp.1.symm | exact congrArg V.str hp.2.1.symm | exact congrArg V.str hp.2.2.1.symm | exact congrArg V.str hp.2.2.2.symm | exact congrArg V.str (hp.1.trans (now_bump sa).1).symm | exact congrArg V.str (hp.2.1.trans (now_bump sa).2.1).symm | exact congrArg V.str (hp.2.2.1.trans (now_bump sa).2.2.1).symm | exact congrArg V.str (hp.2.2.2.trans (now_bump sa).2.2.2).symm | apply And.intro)); done)))
        · conv => whnf
          refine Head.next ⟨i + 1, sa', sb, true, rb⟩ ⟨hi', hc, hb.up⟩ (by dsimp only; omega) (Le.conv (by repeat' (first | rfl | trivial | exact congrArg (V.int .i64) hwr | apply And.intro)) (by (repeat' (first | trivial | apply And.intro)) <;> (first | exact BTh.same _ _ _ _ _ rfl (Nat.le_of_ble_eq_true rfl) | (refine BTh.rowL rfl (by first | rfl | trivial) ?_; (repeat' (first | rfl | trivial | apply And.intro)); done) | exact BTh.rowP rfl (by first | rfl | trivial) (by simp [*]) | exact BTh.tok _ _ _ _ _ rfl rfl | exact BTh.new _ _ rfl rfl)))
    · rcases hk4 with rfl | rfl | rfl | rfl
      · conv => whnf
        refine ⟨Int.natCast_nonneg i, _, hat, ?_⟩
        conv => whnf
        refine ⟨by decide, ?_⟩
        conv => whnf
        refine ⟨Int.natCast_nonneg i, _, hat, ?_⟩
        conv => whnf
        obtain ⟨e1, e2, e3, hc⟩ := hb.write (by omega) (k := 0) (by decide) (by decide) v rb
        have hw := write_ok sb rb 0 v (by omega)
        rw [e1, e2, e3] at hw
        have hp := now_push sb.bump 0 v
        revert hc hw hp
        generalize hsa : sb.bump.push 0 v = sb'
        intro hc hw hp
        refine CallOK.renL (hw) [(1000, 30), (1001, 530)] [] (by first | rfl | (simp only [mupd_memOf]; rfl)) rfl rfl rfl rfl rfl ?_
        rintro _ _ ⟨rfl, rfl⟩
        refine ⟨_, _, cellsAt 28 528 sa ra 0 ++ cellsAt 30 530 sb' true 1 ++ [(37, .row 0 1 (strs4 sa)), (38, .row 0 1 [.str v, .str sb.now.s1, .str sb.now.s2, .str sb.now.s3])], rfl, rfl, rfl, ?_⟩
        conv => whnf
        refine PureOK.conv (num_ok _) (by repeat' (first | rfl | trivial | apply And.intro)) ?_
        conv => whnf
        refine inner_ok is l ⟨i, sa, sb', ra, true⟩ ha.up hc ?_ ?_
        · refine Le.conv (by repeat' (first | rfl | trivial | apply And.intro)) (by (repeat' (first | trivial | apply And.intro)) <;> (first | exact BTh.tok _ _ _ _ _ rfl rfl | (refine BTh.rowL rfl (by first | rfl | trivial) ?_; (repeat' (first | rfl | trivial | exact congrArg V.str hp.1.symm | exact congrArg V.str hp.2.1.symm | exact congrArg V.str hp.2.2.1.symm | exact congrArg V.str hp.2.2.2.symm | exact congrArg V.str (hp.1.trans (now_bump sb).1).symm | exact congrArg V.str (hp.2.1.trans (now_bump sb).2.1).symm | exact congrArg V.str (hp.2.2.1.trans (now_bump sb).2.2.1).symm | exact congrArg V.str (hp.2.2.2.trans (now_bump sb).2.2.2).symm | apply And.intro)); done)))
        · conv => whnf
          refine Head.next ⟨i + 1, sa, sb', ra, true⟩ ⟨hi', ha.up, hc⟩ (by dsimp only; omega) (Le.conv (by repeat' (first | rfl | trivial | exact congrArg (V.int .i64) hwr | apply And.intro)) (by (repeat' (first | trivial | apply And.intro)) <;> (first | exact BTh.same _ _ _ _ _ rfl (Nat.le_of_ble_eq_true rfl) | (refine BTh.rowL rfl (by first | rfl | trivial) ?_; (repeat' (first | rfl | trivial | apply And.intro)); done) | exact BTh.rowP rfl (by first | rfl | trivial) (by simp [*]) | exact BTh.tok _ _ _ _ _ rfl rfl | exact BTh.new _ _ rfl rfl)))
      · conv => whnf
        refine ⟨Int.natCast_nonneg i, _, hat, ?_⟩
        conv => whnf
        refine ⟨by decide, ?_⟩
        conv => whnf
        refine ⟨Int.natCast_nonneg i, _, hat, ?_⟩
        conv => whnf
        obtain ⟨e1, e2, e3, hc⟩ := hb.write (by omega) (k := 1) (by decide) (by decide) v rb
        have hw := write_ok sb rb 1 v (by omega)
        rw [e1, e2, e3] at hw
        have hp := now_push sb.bump 1 v
        revert hc hw hp
        generalize hsa : sb.bump.push 1 v = sb'
        intro hc hw hp
        refine CallOK.renL (hw) [(1000, 30), (1001, 530)] [] (by first | rfl | (simp only [mupd_memOf]; rfl)) rfl rfl rfl rfl rfl ?_
        rintro _ _ ⟨rfl, rfl⟩
        refine ⟨_, _, cellsAt 28 528 sa ra 0 ++ cellsAt 30 530 sb' true 1 ++ [(37, .row 0 1 (strs4 sa)), (38, .row 0 1 [.str sb.now.s0, .str v, .str sb.now.s2, .str sb.now.s3])], rfl, rfl, rfl, ?_⟩
        conv => whnf
        refine PureOK.conv (num_ok _) (by repeat' (first | rfl | trivial | apply And.intro)) ?_
        conv => whnf
        refine inner_ok is l ⟨i, sa, sb', ra, true⟩ ha.up hc ?_ ?_
        · refine Le.conv (by repeat' (first | rfl | trivial | apply And.intro)) (by (repeat' (first | trivial | apply And.intro)) <;> (first | exact BTh.tok _ _ _ _ _ rfl rfl | (refine BTh.rowL rfl (by first | rfl | trivial) ?_; (repeat' (first | rfl | trivial | exact congrArg V.str hp.1.symm | exact congrArg V.str hp.2.1.symm | exact congrArg V.str hp.2.2.1.symm | exact congrArg V.str hp.2.2.2.symm | exact congrArg V.str (hp.1.trans (now_bump sb).1).symm | exact congrArg V.str (hp.2.1.trans (now_bump sb).2.1).symm | exact congrArg V.str (hp.2.2.1.trans (now_bump sb).2.2.1).symm | exact congrArg V.str (hp.2.2.2.trans (now_bump sb).2.2.2).symm | apply And.intro)); done)))
        · conv => whnf
          refine Head.next ⟨i + 1, sa, sb', ra, true⟩ ⟨hi', ha.up, hc⟩ (by dsimp only; omega) (Le.conv (by repeat' (first | rfl | trivial | exact congrArg (V.int .i64) hwr | apply And.intro)) (by (repeat' (first | trivial | apply And.intro)) <;> (first | exact BTh.same _ _ _ _ _ rfl (Nat.le_of_ble_eq_true rfl) | (refine BTh.rowL rfl (by first | rfl | trivial) ?_; (repeat' (first | rfl | trivial | apply And.intro)); done) | exact BTh.rowP rfl (by first | rfl | trivial) (by simp [*]) | exact BTh.tok _ _ _ _ _ rfl rfl | exact BTh.new _ _ rfl rfl)))
      · conv => whnf
        refine ⟨Int.natCast_nonneg i, _, hat, ?_⟩
        conv => whnf
        refine ⟨by decide, ?_⟩
        conv => whnf
        refine ⟨Int.natCast_nonneg i, _, hat, ?_⟩
        conv => whnf
        obtain ⟨e1, e2, e3, hc⟩ := hb.write (by omega) (k := 2) (by decide) (by decide) v rb
        have hw := write_ok sb rb 2 v (by omega)
        rw [e1, e2, e3] at hw
        have hp := now_push sb.bump 2 v
        revert hc hw hp
        generalize hsa : sb.bump.push 2 v = sb'
        intro hc hw hp
        refine CallOK.renL (hw) [(1000, 30), (1001, 530)] [] (by first | rfl | (simp only [mupd_memOf]; rfl)) rfl rfl rfl rfl rfl ?_
        rintro _ _ ⟨rfl, rfl⟩
        refine ⟨_, _, cellsAt 28 528 sa ra 0 ++ cellsAt 30 530 sb' true 1 ++ [(37, .row 0 1 (strs4 sa)), (38, .row 0 1 [.str sb.now.s0, .str sb.now.s1, .str v, .str sb.now.s3])], rfl, rfl, rfl, ?_⟩
        conv => whnf
        refine PureOK.conv (num_ok _) (by repeat' (first | rfl | trivial | apply And.intro)) ?_
        conv => whnf
        refine inner_ok is l ⟨i, sa, sb', ra, true⟩ ha.up hc ?_ ?_
        · refine Le.conv (by repeat' (first | rfl | trivial | apply And.intro)) (by (repeat' (first | trivial | apply And.intro)) <;> (first | exact BTh.tok _ _ _ _ _ rfl rfl | (refine BTh.rowL rfl (by first | rfl | trivial) ?_; (repeat' (first | rfl | trivial | exact congrArg V.str hp.1.symm | exact congrArg V.str hp.2.1.symm | exact congrArg V.str hp.2.2.1.symm | exact congrArg V.str hp.2.2.2.symm | exact congrArg V.str (hp.1.trans (now_bump sb).1).symm | exact congrArg V.str (hp.2.1.trans (now_bump sb).2.1).symm | exact congrArg V.str (hp.2.2.1.trans (now_bump sb).2.2.1).symm | exact congrArg V.str (hp.2.2.2.trans (now_bump sb).2.2.2).symm | apply And.intro)); done)))
        · conv => whnf
          refine Head.next ⟨i + 1, sa, sb', ra, true⟩ ⟨hi', ha.up, hc⟩ (by dsimp only; omega) (Le.conv (by repeat' (first | rfl | trivial | exact congrArg (V.int .i64) hwr | apply And.intro)) (by (repeat' (first | trivial | apply And.intro)) <;> (first | exact BTh.same _ _ _ _ _ rfl (Nat.le_of_ble_eq_true rfl) | (refine BTh.rowL rfl (by first | rfl | trivial) ?_; (repeat' (first | rfl | trivial | apply And.intro)); done) | exact BTh.rowP rfl (by first | rfl | trivial) (by simp [*]) | exact BTh.tok _ _ _ _ _ rfl rfl | exact BTh.new _ _ rfl rfl)))
      · conv => whnf
        refine ⟨Int.natCast_nonneg i, _, hat, ?_⟩
        conv => whnf
        refine ⟨by decide, ?_⟩
        conv => whnf
        refine ⟨Int.natCast_nonneg i, _, hat, ?_⟩
        conv => whnf
        obtain ⟨e1, e2, e3, hc⟩ := hb.write (by omega) (k := 3) (by decide) (by decide) v rb
        have hw := write_ok sb rb 3 v (by omega)
        rw [e1, e2, e3] at hw
        have hp := now_push sb.bump 3 v
        revert hc hw hp
        generalize hsa : sb.bump.push 3 v = sb'
        intro hc hw hp
        refine CallOK.renL (hw) [(1000, 30), (1001, 530)] [] (by first | rfl | (simp only [mupd_memOf]; rfl)) rfl rfl rfl rfl rfl ?_
        rintro _ _ ⟨rfl, rfl⟩
        refine ⟨_, _, cellsAt 28 528 sa ra 0 ++ cellsAt 30 530 sb' true 1 ++ [(37, .row 0 1 (strs4 sa)), (38, .row 0 1 [.str sb.now.s0, .str sb.now.s1, .str sb.now.s2, .str v])], rfl, rfl, rfl, ?_⟩
        conv => whnf
        refine PureOK.conv (num_ok _) (by repeat' (first | rfl | trivial | apply And.intro)) ?_
        conv => whnf
        refine inner_ok is l ⟨i, sa, sb', ra, true⟩ ha.up hc ?_ ?_
        · refine Le.conv (by repeat' (first | rfl | trivial | apply And.intro)) (by (repeat' (first | trivial | apply And.intro)) <;> (first | exact BTh.tok _ _ _ _ _ rfl rfl | (refine BTh.rowL rfl (by first | rfl | trivial) ?_; (repeat' (first | rfl | trivial | exact congrArg V.str hp.1.symm | exact congrArg V.str hp.2.1.symm | exact congrArg V.str hp.2.2.1.symm | exact congrArg V.str hp.2.2.2.symm | exact congrArg V.str (hp.1.trans (now_bump sb).1).symm | exact congrArg V.str (hp.2.1.trans (now_bump sb).2.1).symm | exact congrArg V.str (hp.2.2.1.trans (now_bump sb).2.2.1).symm | exact congrArg V.str (hp.2.2.2.trans (now_bump sb).2.2.2).symm | apply And.intro)); done)))
        · conv => whnf
          refine Head.next ⟨i + 1, sa, sb', ra, true⟩ ⟨hi', ha.up, hc⟩ (by dsimp only; omega) (Le.conv (by repeat' (first | rfl | trivial | exact congrArg (V.int .i64) hwr | apply And.intro)) (by (repeat' (first | trivial | apply And.intro)) <;> (first | exact BTh.same _ _ _ _ _ rfl (Nat.le_of_ble_eq_true rfl) | (refine BTh.rowL rfl (by first | rfl | trivial) ?_; (repeat' (first | rfl | trivial | apply And.intro)); done) | exact BTh.rowP rfl (by first | rfl | trivial) (by simp [*]) | exact BTh.tok _ _ _ _ _ rfl rfl | exact BTh.new _ _ rfl rfl)))
  · conv => whnf
    refine PureOK.conv (awake23_ok) (by repeat' (first | rfl | trivial | apply And.intro)) ?_
    conv => whnf
    refine RetOK.now ?_
    conv => whnf
    exact RetV.conv (by repeat' (first | rfl | trivial | apply And.intro))
end Go.Proofs.Tryd
