/- Cells that run: what the program's have is what the document's have. -/
import Derived.Test.YtihnaonainhjgaaDoorRef22b
set_option linter.unusedVariables false
set_option linter.unusedSimpArgs false
namespace Go.Proofs.Tryd
open Go.Ab

def updC (m : List (Int × List UInt8)) (c k : Int) (d : Bool) (t : CS) : CS := { t with loose := m, crash := c, count := k, down := d }
theorem fold_upd {α : Type} (F : CS → α → CS) (m : List (Int × List UInt8)) (c k : Int) (d : Bool) (hF : ∀ t x, F (updC m c k d t) x = updC m c k d (F t x)) : ∀ (l : List α) (t : CS), l.foldl F (updC m c k d t) = updC m c k d (l.foldl F t)
  | [], _ => rfl
  | x :: l, t => by rw [List.foldl_cons, List.foldl_cons, hF, fold_upd F m c k d hF l]
theorem set4_upd (m : List (Int × List UInt8)) (c k : Int) (d : Bool) (t : CS) (i : Int) (x : List UInt8) : (updC m c k d t).set4 i x = updC m c k d (t.set4 i x) := by
  unfold CS.set4 updC
  (repeat' split) <;> rfl
/-- What the document's have. -/
def rel (p : CS) : CS := { p with crash := max0 (p.crash - p.count), count := 0 }
theorem rel_upd (p : CS) : rel p = updC p.loose (max0 (p.crash - p.count)) 0 p.down p := rfl
theorem rel_now (p : CS) : (rel p).now = updC p.loose (max0 (p.crash - p.count)) 0 p.down p.now := by
  show (rel p).loose.foldl (fun t x => t.set4 x.1 x.2) (rel p) = _
  rw [rel_upd p]
  exact fold_upd (fun (t : CS) (x : Int × List UInt8) => t.set4 x.1 x.2) _ _ _ _ (fun t x => set4_upd _ _ _ _ t x.1 x.2) p.loose p
theorem rel_readR (p : CS) (k : Int) : (rel p).readR k = p.readR k := by
  unfold CS.readR
  have : (rel p).atE k = p.atE k := rfl
  rw [this, rel_now]
  rfl
theorem max0_hi (x : Int) (h : x ≤ 9223372036854775807) : max0 x ≤ 9223372036854775807 := by unfold max0; split <;> omega

structure Run (p : CS) (i : Nat) : Prop where
  ok : p.ok
  c0 : 0 ≤ p.count
  ci : p.count ≤ i
  len : p.loose.length ≤ i
  up : p.down = false → p.crash ≤ 0 ∨ p.count < p.crash
  hi : p.crash ≤ 9223372036854775807
theorem Run.relHi {p : CS} {i : Nat} (h : Run p i) : (rel p).crash ≤ 9223372036854775807 := max0_hi _ (by have := h.hi; have := h.c0; omega)
theorem Run.relOk {p : CS} {i : Nat} (h : Run p i) : (rel p).ok := h.ok
theorem Run.next {p : CS} {i : Nat} (h : Run p i) : Run p (i + 1) := ⟨h.ok, h.c0, by have := h.ci; omega, by have := h.len; omega, h.up, h.hi⟩
theorem Run.bump {p : CS} {i : Nat} (h : Run p i) (hi : i < 1000) (hd : p.down = false) : (rel p).rbump = rel p.bump ∧ Run p.bump (i + 1) := by
  have h0 := h.c0; have h1 := h.ci; have h2 := h.hi; have h3 := h.len
  have hw : IntKind.i64.wrap (p.count + 1) = p.count + 1 := wrap64 _ (by omega) (by omega)
  have hb : p.bump = { p with count := p.count + 1, down := p.count + 1 == p.crash } := by unfold CS.bump; rw [hw]
  rw [hb]
  refine ⟨?_, ⟨h.ok, ?_, ?_, ?_, ?_, h.hi⟩⟩
  · rcases h.up hd with hc | hc
    · have e1 : max0 (p.crash - p.count) = 0 := by unfold max0; rw [if_neg (by omega)]
      have e2 : max0 (p.crash - (p.count + 1)) = 0 := by unfold max0; rw [if_neg (by omega)]
      have e3 : (p.count + 1 == p.crash) = false := by simp; omega
      unfold CS.rbump rel
      dsimp only
      rw [e1, e2, e3, if_neg (by omega), hd]
    · have e1 : max0 (p.crash - p.count) = p.crash - p.count := by unfold max0; rw [if_pos (by omega)]
      have e2 : max0 (p.crash - (p.count + 1)) = p.crash - p.count - 1 := by
        unfold max0
        split <;> omega
      have e3 : (p.count + 1 == p.crash) = (p.crash - p.count - 1 == 0) := by
        rw [Bool.eq_iff_iff]
        simp only [beq_iff_eq]
        omega
      unfold CS.rbump rel
      dsimp only
      rw [e1, e2, e3, if_pos (by omega)]
  · show 0 ≤ p.count + 1
    omega
  · show p.count + 1 ≤ _
    omega
  · show p.loose.length ≤ _
    omega
  · intro hb
    have hb : (p.count + 1 == p.crash) = false := hb
    have hne : p.count + 1 ≠ p.crash := by simpa using hb
    show p.crash ≤ 0 ∨ p.count + 1 < p.crash
    rcases h.up hd with hc | hc <;> omega

theorem Run.write {p : CS} {i : Nat} (h : Run p i) (hi : i < 1000) (k : Int) (x : List UInt8) : (rel p).rwriteR k = p.writeR k ∧ (rel p).rwriteS k x = rel (p.writeS k x) ∧ Run (p.writeS k x) (i + 1) := by
  have ha : (rel p).atE k = p.atE k := rfl
  unfold CS.rwriteR CS.rwriteS CS.writeR CS.writeS
  rw [ha]
  rcases p.atE_cases k with ⟨n, e⟩ | ⟨e, hd, h0, h4⟩
  · rw [e]
    exact ⟨rfl, rfl, h.next⟩
  · rw [e]
    obtain ⟨b1, b2⟩ := h.bump hi hd
    dsimp only
    rw [b1]
    have e1 : (rel p.bump).down = p.bump.down := rfl
    rw [e1]
    cases hb : p.bump.down with
    | true => exact ⟨rfl, rfl, b2⟩
    | false =>
      refine ⟨rfl, rfl, ⟨⟨?_, ?_⟩, b2.c0, b2.ci, ?_, b2.up, b2.hi⟩⟩
      · intro y hy
        rcases List.mem_append.1 hy with hy | hy
        · exact h.ok.1 y hy
        · rw [List.mem_singleton] at hy; subst hy; exact ⟨h0, h4⟩
      · show (p.loose ++ [(k, x)]).length < _
        have := h.len
        simp; omega
      · show (p.loose ++ [(k, x)]).length ≤ _
        have := h.len
        simp; omega
theorem Run.sync {p : CS} {i : Nat} (h : Run p i) (hi : i < 1000) : (rel p).rsyncR = p.syncR ∧ (rel p).rsyncS = rel p.syncS ∧ Run p.syncS (i + 1) := by
  unfold CS.rsyncR CS.rsyncS CS.syncR CS.syncS
  have e0 : (rel p).down = p.down := rfl
  rw [e0]
  cases hd : p.down with
  | true => exact ⟨rfl, rfl, h.next⟩
  | false =>
    obtain ⟨b1, b2⟩ := h.bump hi hd
    rw [b1]
    have e1 : (rel p.bump).down = p.bump.down := rfl
    rw [e1]
    cases hb : p.bump.down with
    | true => exact ⟨rfl, rfl, b2⟩
    | false =>
      have hk : p.bump.now.crash = p.bump.crash ∧ p.bump.now.count = p.bump.count ∧ p.bump.now.down = p.bump.down := foldl_keep _ _
      refine ⟨rfl, ?_, ⟨⟨fun y hy => (by cases hy), (by show (0 : Nat) < 1000000; omega)⟩, ?_, ?_, Nat.zero_le _, ?_, ?_⟩⟩
      · show ({ (rel p.bump).now with loose := [] } : CS) = rel { p.bump.now with loose := [] }
        rw [rel_now]
        unfold rel updC
        dsimp only
        rw [hk.1, hk.2.1, hk.2.2]
      · show 0 ≤ p.bump.now.count
        rw [hk.2.1]; exact b2.c0
      · show p.bump.now.count ≤ _
        rw [hk.2.1]; exact b2.ci
      · intro hx
        show p.bump.now.crash ≤ 0 ∨ p.bump.now.count < p.bump.now.crash
        rw [hk.1, hk.2.1]
        exact b2.up hb
      · show p.bump.now.crash ≤ _
        rw [hk.1]; exact b2.hi
theorem Run.tear {p : CS} {i : Nat} (h : Run p i) (n : Int) (hn : n ≤ 9223372036854775807) : (rel p).rtear n = rel (p.tear n) ∧ Run (p.tear n) (i + 1) := by
  refine ⟨?_, ⟨h.ok, Int.le_refl 0, by show (0 : Int) ≤ _; omega, by have := h.len; show p.loose.length ≤ _; omega, ?_, hn⟩⟩
  · unfold CS.rtear rel CS.tear
    dsimp only
    rw [Int.sub_zero]
  · intro _
    show n ≤ 0 ∨ 0 < n
    omega
theorem Run.fall {p : CS} {i : Nat} (h : Run p i) (q : Int × List Bool) (hq : q.1 ≤ 9223372036854775807) : (rel p).rfall q = rel (p.fall q) ∧ Run (p.fall q) (i + 1) := by
  refine ⟨?_, ⟨⟨fun y hy => (by cases hy), (by show (0 : Nat) < _; omega)⟩, Int.le_refl 0, by show (0 : Int) ≤ _; omega, Nat.zero_le _, ?_, hq⟩⟩
  · show ((rel p).loose.zipIdx.foldl (fallF q.2) (rel p)).fresh (max0 q.1) = rel ((p.loose.zipIdx.foldl (fallF q.2) p).fresh q.1)
    have := fold_upd (fallF q.2) p.loose (max0 (p.crash - p.count)) 0 p.down (fun t x => by
      unfold fallF
      split
      · exact set4_upd _ _ _ _ t _ _
      · rfl) p.loose.zipIdx p
    rw [rel_upd p]
    show ((p.loose.zipIdx).foldl (fallF q.2) (updC p.loose (max0 (p.crash - p.count)) 0 p.down p)).fresh (max0 q.1) = _
    rw [this]
    unfold CS.fresh rel updC
    dsimp only
    rw [Int.sub_zero]
  · intro _
    show q.1 ≤ 0 ∨ 0 < q.1
    omega
theorem Run.new (c : Int) (hc : c ≤ 9223372036854775807) : rel (csN c) = csN (max0 c) ∧ Run (csN c) 0 := by
  refine ⟨?_, ⟨S0_ok c, Int.le_refl 0, Int.le_refl 0, Nat.le_refl 0, ?_, hc⟩⟩
  · unfold rel csN
    dsimp only
    rw [Int.sub_zero]
  · intro _
    show c ≤ 0 ∨ 0 < c
    omega
end Go.Proofs.Tryd
