/- Calls of functions that know some of the memory: the names as the function calls them, and as the caller does. -/
import Derived.Test.YtihnaonainhjgaaDoorAbB
import Derived.ChangeArms
import Derived.ChangeShapes
import Derived.WideShapes
import Derived.ChangeMaps5
import Derived.RowKit
set_option linter.unusedVariables false
set_option linter.unusedSimpArgs false
namespace Go.Ab

/-- Pairs: the function's name, the caller's. -/
def look : List (Nat × Nat) → Nat → Option Nat
  | [], _ => none
  | (a, b) :: r, k => match Nat.beq k a with | true => some b | false => look r k
def lookB : List (Nat × Nat) → Nat → Option Nat
  | [], _ => none
  | (a, b) :: r, k => match Nat.beq k b with | true => some a | false => lookB r k
theorem look_mem {σ : List (Nat × Nat)} {k n : Nat} (h : look σ k = some n) : (k, n) ∈ σ := by
  induction σ with
  | nil => cases h
  | cons p σ ih =>
    obtain ⟨a, b⟩ := p
    unfold look at h
    cases hb : Nat.beq k a with
    | true => rw [hb] at h; injection h with h; rw [Nat.eq_of_beq_eq_true hb, h]; simp
    | false => rw [hb] at h; simp [ih h]
theorem lookB_mem {σ : List (Nat × Nat)} {k n : Nat} (h : lookB σ n = some k) : (k, n) ∈ σ := by
  induction σ with
  | nil => cases h
  | cons p σ ih =>
    obtain ⟨a, b⟩ := p
    unfold lookB at h
    cases hb : Nat.beq n b with
    | true => rw [hb] at h; injection h with h; rw [Nat.eq_of_beq_eq_true hb, h]; simp
    | false => rw [hb] at h; simp [ih h]
/-- No name twice. -/
def apart : List (Nat × Nat) → Bool
  | [] => true
  | (a, b) :: r => r.all (fun p => !(Nat.beq p.1 a) && !(Nat.beq p.2 b)) && apart r
theorem look_of_mem {σ : List (Nat × Nat)} (h : apart σ = true) {k n : Nat} (hm : (k, n) ∈ σ) : look σ k = some n ∧ lookB σ n = some k := by
  induction σ with
  | nil => simp at hm
  | cons p σ ih =>
    obtain ⟨a, b⟩ := p
    simp only [apart, Bool.and_eq_true] at h
    rcases List.mem_cons.1 hm with h1 | h1
    · injection h1 with h1 h2
      subst h1 h2
      simp [look, lookB]
    · have h2 := List.all_eq_true.1 h.1 _ h1
      simp only [Bool.and_eq_true, Bool.not_eq_true'] at h2
      obtain ⟨i1, i2⟩ := ih h.2 h1
      simp only [look, lookB, h2.1, h2.2]
      exact ⟨i1, i2⟩

def inV (m : Mem) (σ : List (Nat × Nat)) : V → V
  | .ptr n g i j => match lookB σ n, m n with
    | some n0, some b => match Nat.beq g b.gen with | true => .ptr n0 0 i j | false => .any
    | _, _ => .any
  | .gl n g sz xs => match lookB σ n, m n with
    | some n0, some b => match Nat.beq g b.gen with | true => .gl n0 0 sz xs | false => .list sz xs
    | _, _ => .list sz xs
  | .msl n g o l => match lookB σ n, m n with
    | some n0, some b => match Nat.beq g b.gen with | true => .msl n0 0 o l | false => .any
    | _, _ => .any
  | .agg xs => .agg (inL xs)
  | .tup xs => .tup (inL xs)
  | .iface t x => .iface t (inV m σ x)
  | .fn f xs => .fn f (inL xs)
  | x => x
where inL : List V → List V
  | [] => []
  | x :: xs => inV m σ x :: inL xs
theorem inL_eq (m : Mem) (σ : List (Nat × Nat)) (xs : List V) : inV.inL m σ xs = xs.map (inV m σ) := by
  induction xs with
  | nil => rfl
  | cons x xs ih => simp [inV.inL, ih]
theorem leaves_inV (m : Mem) (σ : List (Nat × Nat)) (x : V) : leaves (inV m σ x) = (leaves x).map (inV m σ) := by
  cases x with
  | agg xs => simp [inV, leaves, inL_eq]
  | ptr n g i j =>
    simp only [leaves, List.map_cons, List.map_nil, inV]
    cases lookB σ n with
    | none => rfl
    | some n0 => cases m n with
      | none => rfl
      | some b => dsimp only; cases Nat.beq g b.gen <;> rfl
  | gl n g sz xs =>
    simp only [leaves, List.map_cons, List.map_nil, inV]
    cases lookB σ n with
    | none => rfl
    | some n0 => cases m n with
      | none => rfl
      | some b => dsimp only; cases Nat.beq g b.gen <;> rfl
  | msl n g o l =>
    simp only [leaves, List.map_cons, List.map_nil, inV]
    cases lookB σ n with
    | none => rfl
    | some n0 => cases m n with
      | none => rfl
      | some b => dsimp only; cases Nat.beq g b.gen <;> rfl
  | _ => rfl

def inB (m : Mem) (σ : List (Nat × Nat)) : Blk → Blk
  | .row _ sz es => .row 0 sz (es.map (inV m σ))
  | .tok _ sz len r => .tok 0 sz len r

/-- As the function sees it. -/
def Cx.in_ (c : Cx) (σ : List (Nat × Nat)) : Cx where
  S := c.S
  ι n0 := (look σ n0).bind c.ι
  cap n0 := ((look σ n0).map c.cap).getD 0
  mem n0 := (look σ n0).bind fun n => (c.mem n).map (inB c.mem σ)

theorem in_at {c : Cx} {σ : List (Nat × Nat)} (hσ : apart σ = true) {n n0 : Nat} (h : lookB σ n = some n0) : (c.in_ σ).mem n0 = (c.mem n).map (inB c.mem σ) ∧ (c.in_ σ).ι n0 = c.ι n ∧ (c.in_ σ).cap n0 = c.cap n := by
  have := (look_of_mem hσ (lookB_mem h)).1
  simp [Cx.in_, this]
theorem R.keepS {c c' : Cx} (hS : ∀ b o v, c.S b o = some v → c'.S b o = some v) {y : V} {u : Value} (h : R c y u) (hp : y.pure = true) : R c' y u := h.transfer hS (p := fun _ => false) (fun n hn => by cases hn) hp
theorem map_R {c : Cx} {f : V → V} {xs : List V} {vs : List Value} (hl : xs.length = vs.length) (h : ∀ (i : Nat) (x : V) (v : Value), xs[i]? = some x → vs[i]? = some v → R c (f x) v) :
    (xs.map f).length = vs.length ∧ ∀ (i : Nat) (x : V) (v : Value), (xs.map f)[i]? = some x → vs[i]? = some v → R c x v := by
  refine ⟨by simpa using hl, fun i x v h1 h2 => ?_⟩
  rw [List.getElem?_map] at h1
  obtain ⟨y, hy, rfl⟩ := Option.map_eq_some_iff.1 h1
  exact h i y v hy h2

theorem R.in_ {σ : List (Nat × Nat)} (hσ : apart σ = true) {c : Cx} {x : V} {v : Value} (h : R c x v) : R (c.in_ σ) (inV c.mem σ x) v := by
  induction h with
  | any v => exact .any v
  | int k n => exact .int k n
  | bool b => exact .bool b
  | str s => exact .str s
  | agg xs vs hl hr ih => simp only [inV, inL_eq]; obtain ⟨a, b⟩ := map_R hl ih; exact .agg _ vs a b
  | tup xs vs hl hr ih => simp only [inV, inL_eq]; obtain ⟨a, b⟩ := map_R hl ih; exact .tup _ vs a b
  | fn f xs vs hl hr ih => simp only [inV, inL_eq]; obtain ⟨a, b⟩ := map_R hl ih; exact .fn f _ vs a b
  | iface t x v h ih => exact .iface t _ v ih
  | nilp => exact .nilp
  | nili => exact .nili
  | esl A => exact .esl A
  | lit v => exact .lit v
  | @sp c ls j b o f hS hr ih => exact R.keepS (c := c) (c' := c.in_ σ) (fun _ _ _ h => h) (.sp ls j b o f hS hr) rfl
  | @list c sz xs A cap b o f hA hcap hl hS hr ih => exact R.keepS (c := c) (c' := c.in_ σ) (fun _ _ _ h => h) (.list sz xs A cap b o f hA hcap hl hS hr) rfl
  | @ptr c n g i j sz es k h1 hk =>
    simp only [inV, h1]
    cases hl : lookB σ n with
    | none => exact .any _
    | some n0 =>
      obtain ⟨e1, e2, e3⟩ := in_at (c := c) hσ hl
      rw [h1] at e1
      simp only [Blk.gen, Nat.beq_refl]
      exact .ptr n0 0 i j sz _ k e1 (e2.trans hk)
  | @ptr0 c n g i j b A h1 hg =>
    simp only [inV, h1]
    cases hl : lookB σ n with
    | none => exact .any _
    | some n0 =>
      have : Nat.beq g b.gen = false := by
        cases hb : Nat.beq g b.gen with
        | false => rfl
        | true => have := Nat.eq_of_beq_eq_true hb; omega
      simp only [this]
      exact .any _
  | @gl c n g sz xs v k h h1 hk hv ih =>
    have hL : R (c.in_ σ) (.list sz xs) v := R.keepS (c := c) (c' := c.in_ σ) (fun _ _ _ h => h) h rfl
    simp only [inV, h1]
    cases hl : lookB σ n with
    | none => exact hL
    | some n0 =>
      obtain ⟨e1, e2, e3⟩ := in_at (c := c) hσ hl
      rw [h1] at e1
      simp only [Blk.gen, Nat.beq_refl]
      exact .gl n0 0 sz xs v k hL e1 (e2.trans hk) (by rw [e3]; exact hv)
  | @gl0 c n g sz A h1 =>
    simp only [inV, h1]
    cases hl : lookB σ n with
    | none => exact .list sz [] A 0 0 0 (fun _ _ => undef) (fun h => absurd rfl h) (Nat.le_refl _) (by simp) (by simp) (by simp)
    | some n0 =>
      obtain ⟨e1, e2, e3⟩ := in_at (c := c) hσ hl
      rw [h1] at e1
      simp only [Blk.gen, Nat.beq_refl]
      exact .gl0 n0 0 sz A e1
  | @glx c n g sz xs v b h h1 hg ih =>
    have hL : R (c.in_ σ) (.list sz xs) v := R.keepS (c := c) (c' := c.in_ σ) (fun _ _ _ h => h) h rfl
    simp only [inV, h1]
    cases hl : lookB σ n with
    | none => exact hL
    | some n0 =>
      have : Nat.beq g b.gen = false := by
        cases hb : Nat.beq g b.gen with
        | false => rfl
        | true => have := Nat.eq_of_beq_eq_true hb; omega
      simp only [this]
      exact hL
  | @msl c n g off len sz es k A cap h1 hk h2 h3 hA =>
    simp only [inV, h1]
    cases hl : lookB σ n with
    | none => exact .any _
    | some n0 =>
      obtain ⟨e1, e2, e3⟩ := in_at (c := c) hσ hl
      rw [h1] at e1
      simp only [Blk.gen, Nat.beq_refl]
      exact .msl n0 0 off len sz _ k A cap e1 (e2.trans hk) (by simpa using h2) (by simpa using h3) hA
  | @msl0 c n g off len b A cap h1 hg =>
    simp only [inV, h1]
    cases hl : lookB σ n with
    | none => exact .any _
    | some n0 =>
      have : Nat.beq g b.gen = false := by
        cases hb : Nat.beq g b.gen with
        | false => rfl
        | true => have := Nat.eq_of_beq_eq_true hb; omega
      simp only [this]
      exact .any _

theorem Sim.in_ {σ : List (Nat × Nat)} (hσ : apart σ = true) {c : Cx} {w : World} (h : Sim c w) : Sim (c.in_ σ) w := by
  refine ⟨h.stab, fun n0 b0 hb => ?_, fun n n' k h1 h2 h3 h4 => ?_⟩
  · simp only [Cx.in_] at hb
    cases hl : look σ n0 with
    | none => rw [hl] at hb; cases hb
    | some n =>
      rw [hl] at hb
      simp only [Option.bind_some] at hb
      obtain ⟨b, hb', rfl⟩ := Option.map_eq_some_iff.1 hb
      have hlb := (look_of_mem hσ (look_mem hl)).2
      obtain ⟨e1, e2, e3⟩ := in_at (c := c) hσ hlb
      have := h.ok n b hb'
      cases b with
      | row g sz es =>
        obtain ⟨k, cs, T, fr, a1, a2, a3, a4, a5, a6, a7⟩ := this
        refine ⟨k, cs, T, fr, e2.trans a1, a2, by simpa using a3, a4, fun x hx => ?_, fun i x j y g1 g2 => ?_, a7⟩
        · obtain ⟨y, hy, rfl⟩ := List.mem_map.1 hx
          rw [leaves_inV, List.length_map]; exact a5 y hy
        · rw [List.getElem?_map] at g1
          obtain ⟨x, g3, rfl⟩ := Option.map_eq_some_iff.1 g1
          rw [leaves_inV, List.getElem?_map] at g2
          obtain ⟨y, g4, rfl⟩ := Option.map_eq_some_iff.1 g2
          obtain ⟨v, k1, k2⟩ := a6 i x j y g3 g4
          exact ⟨v, k1, k2.in_ hσ⟩
      | tok g sz len r =>
        cases r with
        | true =>
          obtain ⟨k, cs, T, fr, a1, a2, a3, a4, a5, a6⟩ := this
          exact ⟨k, cs, T, fr, e2.trans a1, a2, by rw [e3]; exact a3, by rw [e3]; exact a4, a5, a6⟩
        | false => exact e2.trans this
  · have ex : ∀ n, (c.in_ σ).mem n ≠ none → (c.in_ σ).ι n = some k → ∃ m, look σ n = some m ∧ c.mem m ≠ none ∧ c.ι m = some k := fun n h1 h2 => by
      simp only [Cx.in_] at h1 h2
      cases hl : look σ n with
      | none => rw [hl] at h2; cases h2
      | some m =>
        rw [hl] at h1 h2
        simp only [Option.bind_some] at h1 h2
        refine ⟨m, rfl, fun e => h1 (by rw [e]; rfl), h2⟩
    obtain ⟨m1, a1, a2, a3⟩ := ex n h1 h3
    obtain ⟨m2, b1, b2, b3⟩ := ex n' h2 h4
    have := h.inj m1 m2 k a2 b2 a3 b3
    subst this
    have c1 := (look_of_mem hσ (look_mem a1)).2
    have c2 := (look_of_mem hσ (look_mem b1)).2
    rw [c1] at c2
    injection c2
end Go.Ab

/- The way back: what the function left, as the caller calls it. -/
namespace Go.Ab

/-- The function's name, the caller's, what is added to the generation. -/
def look3 : List (Nat × Nat × Nat) → Nat → Option (Nat × Nat)
  | [], _ => none
  | (a, b, k) :: r, n => match Nat.beq n a with | true => some (b, k) | false => look3 r n
def look3B : List (Nat × Nat × Nat) → Nat → Option (Nat × Nat)
  | [], _ => none
  | (a, b, k) :: r, n => match Nat.beq n b with | true => some (a, k) | false => look3B r n
theorem look3_mem {θ : List (Nat × Nat × Nat)} {n : Nat} {p : Nat × Nat} (h : look3 θ n = some p) : (n, p.1, p.2) ∈ θ := by
  induction θ with
  | nil => cases h
  | cons q θ ih =>
    obtain ⟨a, b, k⟩ := q
    unfold look3 at h
    cases hb : Nat.beq n a with
    | true => rw [hb] at h; injection h with h; subst h; rw [Nat.eq_of_beq_eq_true hb]; simp
    | false => rw [hb] at h; simp [ih h]
theorem look3B_mem {θ : List (Nat × Nat × Nat)} {n : Nat} {p : Nat × Nat} (h : look3B θ n = some p) : (p.1, n, p.2) ∈ θ := by
  induction θ with
  | nil => cases h
  | cons q θ ih =>
    obtain ⟨a, b, k⟩ := q
    unfold look3B at h
    cases hb : Nat.beq n b with
    | true => rw [hb] at h; injection h with h; subst h; rw [Nat.eq_of_beq_eq_true hb]; simp
    | false => rw [hb] at h; simp [ih h]
def apart3 (θ : List (Nat × Nat × Nat)) : Bool := apart (θ.map fun p => (p.1, p.2.1))
theorem look3_of_mem {θ : List (Nat × Nat × Nat)} (h : apart3 θ = true) {a b k : Nat} (hm : (a, b, k) ∈ θ) : look3 θ a = some (b, k) ∧ look3B θ b = some (a, k) := by
  induction θ with
  | nil => simp at hm
  | cons q θ ih =>
    obtain ⟨x, y, z⟩ := q
    simp only [apart3, List.map_cons, apart, Bool.and_eq_true] at h
    rcases List.mem_cons.1 hm with h1 | h1
    · injection h1 with h1 h2
      injection h2 with h2 h3
      subst h1 h2 h3
      simp [look3, look3B]
    · have h2 := List.all_eq_true.1 h.1 (a, b) (List.mem_map.2 ⟨_, h1, rfl⟩)
      simp only [Bool.and_eq_true, Bool.not_eq_true'] at h2
      obtain ⟨i1, i2⟩ := ih (by simp [apart3, h.2]) h1
      simp only [look3, look3B, h2.1, h2.2]
      exact ⟨i1, i2⟩

def outV (θ : List (Nat × Nat × Nat)) : V → V
  | .ptr n g i j => match look3 θ n with | some (b, k) => .ptr b (g + k) i j | none => .any
  | .gl n g sz xs => match look3 θ n with | some (b, k) => .gl b (g + k) sz xs | none => .list sz xs
  | .msl n g o l => match look3 θ n with | some (b, k) => .msl b (g + k) o l | none => .any
  | .agg xs => .agg (outL xs)
  | .tup xs => .tup (outL xs)
  | .iface t x => .iface t (outV θ x)
  | .fn f xs => .fn f (outL xs)
  | x => x
where outL : List V → List V
  | [] => []
  | x :: xs => outV θ x :: outL xs
theorem outL_eq (θ : List (Nat × Nat × Nat)) (xs : List V) : outV.outL θ xs = xs.map (outV θ) := by
  induction xs with
  | nil => rfl
  | cons x xs ih => simp [outV.outL, ih]
theorem leaves_outV (θ : List (Nat × Nat × Nat)) (x : V) : leaves (outV θ x) = (leaves x).map (outV θ) := by
  cases x with
  | agg xs => simp [outV, leaves, outL_eq]
  | ptr n g i j =>
    simp only [leaves, List.map_cons, List.map_nil, outV]
    cases look3 θ n with
    | none => rfl
    | some p => rfl
  | gl n g sz xs =>
    simp only [leaves, List.map_cons, List.map_nil, outV]
    cases look3 θ n with
    | none => rfl
    | some p => rfl
  | msl n g o l =>
    simp only [leaves, List.map_cons, List.map_nil, outV]
    cases look3 θ n with
    | none => rfl
    | some p => rfl
  | _ => rfl
def outB (θ : List (Nat × Nat × Nat)) (k : Nat) : Blk → Blk
  | .row g sz es => .row (g + k) sz (es.map (outV θ))
  | .tok g sz len r => .tok (g + k) sz len r
theorem outB_gen (θ : List (Nat × Nat × Nat)) (k : Nat) (b : Blk) : (outB θ k b).gen = b.gen + k := by cases b <;> rfl

/-- As the caller sees it: c1 is what the function left. -/
def Cx.out (c c1 : Cx) (θ : List (Nat × Nat × Nat)) : Cx where
  S := c1.S
  ι n := match look3B θ n with
    | some (a, _) => (match c1.mem a with | some _ => c1.ι a | none => c.ι n)
    | none => c.ι n
  cap n := match look3B θ n with
    | some (a, _) => (match c1.mem a with | some _ => c1.cap a | none => c.cap n)
    | none => c.cap n
  mem n := match look3B θ n with
    | some (a, k) => (match c1.mem a with | some b => some (outB θ k b) | none => c.mem n)
    | none => c.mem n

theorem out_at {c c1 : Cx} {θ : List (Nat × Nat × Nat)} (hθ : apart3 θ = true) {a b k : Nat} (h : look3 θ a = some (b, k)) {blk : Blk} (hb : c1.mem a = some blk) :
    (c.out c1 θ).mem b = some (outB θ k blk) ∧ (c.out c1 θ).ι b = c1.ι a ∧ (c.out c1 θ).cap b = c1.cap a := by
  have := (look3_of_mem hθ (look3_mem h)).2
  simp [Cx.out, this, hb]

theorem R.out {c : Cx} {θ : List (Nat × Nat × Nat)} (hθ : apart3 θ = true) {c1 : Cx} {x : V} {v : Value} (h : R c1 x v) : R (c.out c1 θ) (outV θ x) v := by
  induction h with
  | any v => exact .any v
  | int k n => exact .int k n
  | bool b => exact .bool b
  | str s => exact .str s
  | agg xs vs hl hr ih => simp only [outV, outL_eq]; obtain ⟨a, b⟩ := map_R hl ih; exact .agg _ vs a b
  | tup xs vs hl hr ih => simp only [outV, outL_eq]; obtain ⟨a, b⟩ := map_R hl ih; exact .tup _ vs a b
  | fn f xs vs hl hr ih => simp only [outV, outL_eq]; obtain ⟨a, b⟩ := map_R hl ih; exact .fn f _ vs a b
  | iface t x v h ih => exact .iface t _ v ih
  | nilp => exact .nilp
  | nili => exact .nili
  | esl A => exact .esl A
  | lit v => exact .lit v
  | @sp c1 ls j b o f hS hr ih => exact R.keepS (c := c1) (c' := c.out c1 θ) (fun _ _ _ h => h) (.sp ls j b o f hS hr) rfl
  | @list c1 sz xs A cap b o f hA hcap hl hS hr ih => exact R.keepS (c := c1) (c' := c.out c1 θ) (fun _ _ _ h => h) (.list sz xs A cap b o f hA hcap hl hS hr) rfl
  | @ptr c1 n g i j sz es k h1 hk =>
    simp only [outV]
    cases hl : look3 θ n with
    | none => exact .any _
    | some p =>
      obtain ⟨b, kk⟩ := p
      obtain ⟨e1, e2, e3⟩ := out_at (c := c) hθ hl h1
      exact .ptr b (g + kk) i j sz _ k e1 (e2.trans hk)
  | @ptr0 c1 n g i j b A h1 hg =>
    simp only [outV]
    cases hl : look3 θ n with
    | none => exact .any _
    | some p =>
      obtain ⟨b', kk⟩ := p
      obtain ⟨e1, e2, e3⟩ := out_at (c := c) hθ hl h1
      exact .ptr0 b' (g + kk) i j _ A e1 (by rw [outB_gen]; omega)
  | @gl c1 n g sz xs v k h h1 hk hv ih =>
    have hL : R (c.out c1 θ) (.list sz xs) v := R.keepS (c := c1) (c' := c.out c1 θ) (fun _ _ _ h => h) h rfl
    simp only [outV]
    cases hl : look3 θ n with
    | none => exact hL
    | some p =>
      obtain ⟨b, kk⟩ := p
      obtain ⟨e1, e2, e3⟩ := out_at (c := c) hθ hl h1
      exact .gl b (g + kk) sz xs v k hL e1 (e2.trans hk) (by rw [e3]; exact hv)
  | @gl0 c1 n g sz A h1 =>
    simp only [outV]
    cases hl : look3 θ n with
    | none => exact .list sz [] A 0 0 0 (fun _ _ => undef) (fun h => absurd rfl h) (Nat.le_refl _) (by simp) (by simp) (by simp)
    | some p =>
      obtain ⟨b, kk⟩ := p
      obtain ⟨e1, e2, e3⟩ := out_at (c := c) hθ hl h1
      exact .gl0 b (g + kk) sz A e1
  | @glx c1 n g sz xs v b h h1 hg ih =>
    have hL : R (c.out c1 θ) (.list sz xs) v := R.keepS (c := c1) (c' := c.out c1 θ) (fun _ _ _ h => h) h rfl
    simp only [outV]
    cases hl : look3 θ n with
    | none => exact hL
    | some p =>
      obtain ⟨b', kk⟩ := p
      obtain ⟨e1, e2, e3⟩ := out_at (c := c) hθ hl h1
      exact .glx b' (g + kk) sz xs v _ hL e1 (by rw [outB_gen]; omega)
  | @msl c1 n g off len sz es k A cap h1 hk h2 h3 hA =>
    simp only [outV]
    cases hl : look3 θ n with
    | none => exact .any _
    | some p =>
      obtain ⟨b, kk⟩ := p
      obtain ⟨e1, e2, e3⟩ := out_at (c := c) hθ hl h1
      exact .msl b (g + kk) off len sz _ k A cap e1 (e2.trans hk) (by simpa using h2) (by simpa using h3) hA
  | @msl0 c1 n g off len b A cap h1 hg =>
    simp only [outV]
    cases hl : look3 θ n with
    | none => exact .any _
    | some p =>
      obtain ⟨b', kk⟩ := p
      obtain ⟨e1, e2, e3⟩ := out_at (c := c) hθ hl h1
      exact .msl0 b' (g + kk) off len _ A cap e1 (by rw [outB_gen]; omega)
end Go.Ab

/- Calls by renaming. -/
namespace Go.Ab

def genAt (m : Mem) (n : Nat) : Nat := match m n with | some b => b.gen | none => 0
def theta (m : Mem) (σ τ : List (Nat × Nat)) : List (Nat × Nat × Nat) := σ.map (fun p => (p.1, p.2, genAt m p.2)) ++ τ.map (fun p => (p.1, p.2, ngen m p.2))

def outMem (m : Mem) (θ : List (Nat × Nat × Nat)) (m1 : Mem) : Mem := fun n => match look3B θ n with
  | some (a, k) => (match m1 a with | some b => some (outB θ k b) | none => m n)
  | none => m n

theorem apart_left {σ τ : List (Nat × Nat)} (h : apart (σ ++ τ) = true) : apart σ = true := by
  induction σ with
  | nil => rfl
  | cons p σ ih =>
    obtain ⟨a, b⟩ := p
    simp only [List.cons_append, apart, Bool.and_eq_true, List.all_append] at h ⊢
    exact ⟨h.1.1, ih h.2⟩
theorem theta_apart {m : Mem} {σ τ : List (Nat × Nat)} (h : apart (σ ++ τ) = true) : apart3 (theta m σ τ) = true := by
  unfold apart3 theta
  rw [List.map_append, List.map_map, List.map_map]
  have e1 : σ.map ((fun p : Nat × Nat × Nat => (p.1, p.2.1)) ∘ fun p : Nat × Nat => (p.1, p.2, genAt m p.2)) = σ := by
    rw [show ((fun p : Nat × Nat × Nat => (p.1, p.2.1)) ∘ fun p : Nat × Nat => (p.1, p.2, genAt m p.2)) = id from funext fun p => rfl, List.map_id]
  have e2 : τ.map ((fun p : Nat × Nat × Nat => (p.1, p.2.1)) ∘ fun p : Nat × Nat => (p.1, p.2, ngen m p.2)) = τ := by
    rw [show ((fun p : Nat × Nat × Nat => (p.1, p.2.1)) ∘ fun p : Nat × Nat => (p.1, p.2, ngen m p.2)) = id from funext fun p => rfl, List.map_id]
  rw [e1, e2]
  exact h

/-- **A call of a function that knows some of the memory.** σ: its names from 1000 on and what they are here; τ: names of what it makes, and what they become. -/
theorem CallOK.ren {P : Program} {G : Given} {f : FuncId} {args0 : List V} {M0 : List (Nat × Blk)} {Post : V → Mem → Prop} (h : CallOK P G f args0 (memOf M0) Post) {args : List V} {m : Mem} (σ τ : List (Nat × Nat))
    (hM : M0.map (fun p => (p.1, some p.2)) = σ.map (fun p => (p.1, (m p.2).map (inB m σ)))) (ha : args.map (inV m σ) = args0) (hap : apart (σ ++ τ) = true) (h1 : σ.all (fun p => Nat.ble 1000 p.1) = true) (h2 : τ.all (fun p => !Nat.ble 1000 p.2) = true)
    {K : V → Mem → Prop} (hK : ∀ r m1, Post r m1 → K (outV (theta m σ τ) r) (outMem m (theta m σ τ) m1)) : CallOK P G f args m K := by
  have hσ := apart_left hap
  have hθ := theta_apart (m := m) hap
  refine ⟨fun c w vs hs hcm hg hr => ?_⟩
  have hmem0 : (c.in_ σ).mem = memOf M0 := by
    funext n0
    have gen : ∀ (M : List (Nat × Blk)) (s : List (Nat × Nat)), M.map (fun p => (p.1, some p.2)) = s.map (fun p => (p.1, (m p.2).map (inB m σ))) → (look s n0).bind (fun n => (m n).map (inB m σ)) = memOf M n0 := by
      intro M
      induction M with
      | nil => intro s hs; cases s with
        | nil => rfl
        | cons p s => simp at hs
      | cons q M ih =>
        intro s hs
        cases s with
        | nil => simp at hs
        | cons p s =>
          obtain ⟨a, b⟩ := p
          obtain ⟨a', b'⟩ := q
          simp only [List.map_cons, List.cons.injEq, Prod.mk.injEq] at hs
          obtain ⟨⟨rfl, e2⟩, e3⟩ := hs
          simp only [look, memOf]
          cases hb : Nat.beq n0 a' with
          | true => simp only [Option.bind_some]; exact e2.symm
          | false => exact ih s e3
    have := gen M0 σ hM
    simp only [Cx.in_, hcm]
    exact this
  refine (h.run (c.in_ σ) w vs (hs.in_ hσ) hmem0 hg ⟨by rw [← ha]; simpa using hr.1, fun i x v g1 g2 => ?_⟩).mono fun v w' ⟨c1, r, k1, k2, k3, k4, k5, k6⟩ => ?_
  · rw [← ha, List.getElem?_map] at g1
    obtain ⟨y, hy, rfl⟩ := Option.map_eq_some_iff.1 g1
    rw [← hcm]
    exact (hr.2 i y v hy g2).in_ hσ
  · show _
    have inσ : ∀ {a b : Nat}, (a, b) ∈ σ → look3B (theta m σ τ) b = some (a, genAt m b) := fun hab => (look3_of_mem hθ (List.mem_append_left _ (List.mem_map.2 ⟨_, hab, rfl⟩))).2
    -- a name of the caller's: untouched, of σ, or of τ
    have cases_ : ∀ n, (look3B (theta m σ τ) n = none) ∨ (∃ a, (a, n) ∈ σ ∧ look3B (theta m σ τ) n = some (a, genAt m n)) ∨ (∃ a, (a, n) ∈ τ ∧ look3B (theta m σ τ) n = some (a, ngen m n)) := fun n => by
      cases hl : look3B (theta m σ τ) n with
      | none => exact .inl rfl
      | some p =>
        have := look3B_mem hl
        unfold theta at this
        rcases List.mem_append.1 this with h | h
        · obtain ⟨q, hq, e⟩ := List.mem_map.1 h
          injection e with e1 e2
          injection e2 with e2 e3
          subst e2
          exact .inr (.inl ⟨q.1, hq, by rw [show p = (q.1, genAt m q.2) from Prod.ext e1.symm e3.symm]⟩)
        · obtain ⟨q, hq, e⟩ := List.mem_map.1 h
          injection e with e1 e2
          injection e2 with e2 e3
          subst e2
          exact .inr (.inr ⟨q.1, hq, by rw [show p = (q.1, ngen m q.2) from Prod.ext e1.symm e3.symm]⟩)
    have hinat : ∀ {a n : Nat}, (a, n) ∈ σ → (c.in_ σ).mem a = (c.mem n).map (inB c.mem σ) ∧ (c.in_ σ).ι a = c.ι n ∧ (c.in_ σ).cap a = c.cap n := fun h => in_at hσ (look_of_mem hσ h).2
    have hown : ∀ k, Owns (c.in_ σ) k → Owns c k := by
      rintro k ⟨a, hn, hk⟩
      simp only [Cx.in_] at hn hk
      cases hl : look σ a with
      | none => rw [hl] at hk; cases hk
      | some n =>
        rw [hl] at hn hk
        simp only [Option.bind_some] at hn hk
        exact ⟨n, fun e => hn (by rw [e]; rfl), hk⟩
    let c2 := c.out c1 (theta m σ τ)
    have hmono : Mono c c2 := by
      refine ⟨k2.S, fun n => .of fun b hb => ?_⟩
      rcases cases_ n with hl | ⟨a, haσ, hl⟩ | ⟨a, haτ, hl⟩
      · exact ⟨b, by simp only [c2, Cx.out, hl]; exact hb, .inr ⟨by simp only [c2, Cx.out, hl], by simp only [c2, Cx.out, hl], b.like_refl⟩⟩
      · obtain ⟨i1, i2, i3⟩ := hinat haσ
        have hgen : genAt m n = b.gen := by unfold genAt; rw [← hcm, hb]
        obtain ⟨b1, e1, e2⟩ := (k3.at_ a).blk (i1.trans (by rw [hb]; rfl))
        refine ⟨outB (theta m σ τ) (genAt m n) b1, by simp only [c2, Cx.out, hl, e1], ?_⟩
        have hg0 : (inB c.mem σ b).gen = 0 := by cases b <;> rfl
        rcases e2 with e2 | ⟨e2, e3, e4⟩
        · left; rw [outB_gen, hgen]; omega
        · right
          refine ⟨by simp only [c2, Cx.out, hl, e1]; exact e2.trans i2, by simp only [c2, Cx.out, hl, e1]; exact e3.trans i3, ?_⟩
          rw [hgen]
          cases b with
          | row g sz es =>
            obtain ⟨es', rfl, hl'⟩ := e4
            exact ⟨es'.map (outV (theta m σ τ)), by simp [outB, Blk.gen], by simpa using hl'⟩
          | tok g sz len rm =>
            cases e4
            simp [outB, Blk.like, Blk.gen]
      · cases e1 : c1.mem a with
        | none => exact ⟨b, by simp only [c2, Cx.out, hl, e1]; exact hb, .inr ⟨by simp only [c2, Cx.out, hl, e1], by simp only [c2, Cx.out, hl, e1], b.like_refl⟩⟩
        | some b1 =>
          refine ⟨outB (theta m σ τ) (ngen m n) b1, by simp only [c2, Cx.out, hl, e1], .inl ?_⟩
          have := ngen_gt (m := m) (d := n) (hcm ▸ hb)
          rw [outB_gen]; omega
    -- where a block of the caller's is from
    have from_ : ∀ n b, c2.mem n = some b → (∃ a k b1, look3B (theta m σ τ) n = some (a, k) ∧ c1.mem a = some b1 ∧ b = outB (theta m σ τ) k b1 ∧ c2.ι n = c1.ι a ∧ c2.cap n = c1.cap a) ∨
        (c.mem n = some b ∧ c2.ι n = c.ι n ∧ c2.cap n = c.cap n ∧ ∀ a, (a, n) ∉ σ) := fun n b hb => by
      have untouched : (look3B (theta m σ τ) n = none ∨ ∃ a k, look3B (theta m σ τ) n = some (a, k) ∧ c1.mem a = none ∧ (a, n) ∈ τ) → c.mem n = some b ∧ c2.ι n = c.ι n ∧ c2.cap n = c.cap n ∧ ∀ a, (a, n) ∉ σ := fun hu => by
        rcases hu with hl | ⟨a, k, hl, e1, haτ⟩
        · simp only [c2, Cx.out, hl] at hb
          exact ⟨hb, by simp only [c2, Cx.out, hl], by simp only [c2, Cx.out, hl], fun a ha => by rw [inσ ha] at hl; cases hl⟩
        · simp only [c2, Cx.out, hl, e1] at hb
          refine ⟨hb, by simp only [c2, Cx.out, hl, e1], by simp only [c2, Cx.out, hl, e1], fun a' ha' => ?_⟩
          have h3 := inσ ha'
          rw [hl] at h3
          injection h3 with h3
          injection h3 with h3 _
          subst h3
          obtain ⟨i1, i2, i3⟩ := hinat ha'
          obtain ⟨b1, g1, _⟩ := (k3.at_ a).blk (i1.trans (by rw [hb]; rfl))
          rw [e1] at g1; cases g1
      rcases cases_ n with hl | ⟨a, haσ, hl⟩ | ⟨a, haτ, hl⟩
      · exact .inr (untouched (.inl hl))
      · cases e1 : c1.mem a with
        | some b1 =>
          simp only [c2, Cx.out, hl, e1] at hb
          injection hb with hb
          exact .inl ⟨a, _, b1, hl, e1, hb.symm, by simp only [c2, Cx.out, hl, e1], by simp only [c2, Cx.out, hl, e1]⟩
        | none =>
          simp only [c2, Cx.out, hl, e1] at hb
          obtain ⟨i1, i2, i3⟩ := hinat haσ
          obtain ⟨b1, g1, _⟩ := (k3.at_ a).blk (i1.trans (by rw [hb]; rfl))
          rw [e1] at g1; cases g1
      · cases e1 : c1.mem a with
        | some b1 =>
          simp only [c2, Cx.out, hl, e1] at hb
          injection hb with hb
          exact .inl ⟨a, _, b1, hl, e1, hb.symm, by simp only [c2, Cx.out, hl, e1], by simp only [c2, Cx.out, hl, e1]⟩
        | none => exact .inr (untouched (.inr ⟨a, _, hl, e1, haτ⟩))
    have notin : ∀ n k, c.mem n ≠ none → c.ι n = some k → (∀ a, (a, n) ∉ σ) → ¬ Owns (c.in_ σ) k := by
      rintro n k hn hk hno ⟨a, h3, h4⟩
      simp only [Cx.in_] at h3 h4
      cases hl : look σ a with
      | none => rw [hl] at h4; cases h4
      | some n' =>
        rw [hl] at h3 h4
        simp only [Option.bind_some] at h3 h4
        have := hs.inj n n' k hn (fun e => h3 (by rw [e]; rfl)) hk h4
        subst this
        exact hno a (look_mem hl)
    have hsim : Sim c2 w' := by
      refine ⟨k4.stab, fun n b hb => ?_, fun n n' k hn hn' hk hk' => ?_⟩
      · rcases from_ n b hb with ⟨a, k, b1, _, e1, rfl, e2, e3⟩ | ⟨e1, e2, e3, e4⟩
        · have := k4.ok a b1 e1
          cases b1 with
          | row g sz es =>
            obtain ⟨kk, cs, T, fr, a1, a2, a3, a4, a5, a6, a7⟩ := this
            refine ⟨kk, cs, T, fr, e2.trans a1, a2, by simpa using a3, a4, fun x hx => ?_, fun i x j y g1 g2 => ?_, a7⟩
            · obtain ⟨y, hy, rfl⟩ := List.mem_map.1 hx
              rw [leaves_outV, List.length_map]; exact a5 y hy
            · rw [List.getElem?_map] at g1
              obtain ⟨x, g3, rfl⟩ := Option.map_eq_some_iff.1 g1
              rw [leaves_outV, List.getElem?_map] at g2
              obtain ⟨y, g4, rfl⟩ := Option.map_eq_some_iff.1 g2
              obtain ⟨u, q1, q2⟩ := a6 i x j y g3 g4
              exact ⟨u, q1, q2.out hθ⟩
          | tok g sz len rm =>
            cases rm with
            | true =>
              obtain ⟨kk, cs, T, fr, a1, a2, a3, a4, a5, a6⟩ := this
              exact ⟨kk, cs, T, fr, e2.trans a1, a2, by rw [e3]; exact a3, by rw [e3]; exact a4, a5, a6⟩
            | false => exact e2.trans this
        · have hn : c.mem n ≠ none := by rw [e1]; simp
          have hlt : ∀ k, c.ι n = some k → k < w.heap.size := fun k hk => hs.ι_lt hn hk
          refine (hs.ok n b e1).keep e2 e3 (fun k hk => k2.frame k (hlt k hk) (notin n k hn hk e4)) (fun _ _ h => hmono.R h) (fun k o hk hnone => ?_)
          cases hv : c2.S k o with
          | none => rfl
          | some u =>
            rcases k2.newS k o u hv with h3 | h3 | h3
            · rw [show (c.in_ σ).S k o = c.S k o from rfl, hnone] at h3; cases h3
            · have := hlt k hk; omega
            · exact absurd h3 (notin n k hn hk e4)
      · obtain ⟨b, hb⟩ := Option.ne_none_iff_exists'.1 hn
        obtain ⟨b', hb'⟩ := Option.ne_none_iff_exists'.1 hn'
        have mixed : ∀ (n n' : Nat) (a : Nat), c1.mem a ≠ none → c1.ι a = some k → c.mem n' ≠ none → c.ι n' = some k → (∀ a, (a, n') ∉ σ) → False := fun n n' a g1 g2 g3 g4 g5 => by
          rcases k2.own k ⟨a, g1, g2⟩ with h3 | h3
          · have := hs.ι_lt g3 g4; omega
          · exact notin n' k g3 g4 g5 h3
        rcases from_ n b hb with ⟨a, kk, b1, l1, e1, _, e2, _⟩ | ⟨e1, e2, _, e4⟩ <;> rcases from_ n' b' hb' with ⟨a', kk', b1', l1', e1', _, e2', _⟩ | ⟨e1', e2', _, e4'⟩
        · have := k4.inj a a' k (by rw [e1]; simp) (by rw [e1']; simp) (e2.symm.trans hk) (e2'.symm.trans hk')
          subst this
          have q1 := (look3_of_mem hθ (look3B_mem l1)).1
          have q2 := (look3_of_mem hθ (look3B_mem l1')).1
          simp only at q1 q2
          rw [q1] at q2
          injection q2 with q2
          injection q2
        · exact (mixed n n' a (by rw [e1]; simp) (e2.symm.trans hk) (by rw [e1']; simp) (e2'.symm.trans hk') e4').elim
        · exact (mixed n' n a' (by rw [e1']; simp) (e2'.symm.trans hk') (by rw [e1]; simp) (e2.symm.trans hk) e4).elim
        · exact hs.inj n n' k (by rw [e1]; simp) (by rw [e1']; simp) (e2.symm.trans hk) (e2'.symm.trans hk')
    refine ⟨c2, outV (theta m σ τ) r, ?_, ⟨k2.os, k2.tape, k2.output, k2.size, fun k hk hno => k2.frame k hk fun h => hno (hown k h), k2.S, fun b o u hu => ?_, ?_⟩, hmono, hsim, k5.out hθ, fun n hn hne => ?_⟩
    · have : c2.mem = outMem m (theta m σ τ) c1.mem := by
        funext n
        (simp only [c2, Cx.out, outMem, hcm]) <;> rfl
      rw [this]
      exact hK r c1.mem k1
    · rcases k2.newS b o u hu with h3 | h3 | h3
      · exact .inl h3
      · exact .inr (.inl h3)
      · exact .inr (.inr (hown _ h3))
    · rintro k ⟨n, hn, hk⟩
      obtain ⟨b, hb⟩ := Option.ne_none_iff_exists'.1 hn
      rcases from_ n b hb with ⟨a, kk, b1, _, e1, _, e2, _⟩ | ⟨e1, e2, _, _⟩
      · rcases k2.own k ⟨a, by rw [e1]; simp, e2.symm.trans hk⟩ with h3 | h3
        · exact .inl h3
        · exact .inr (hown _ h3)
      · exact .inr ⟨n, by rw [e1]; simp, e2.symm.trans hk⟩
    · obtain ⟨b, hb⟩ := Option.ne_none_iff_exists'.1 hne
      rcases from_ n b hb with ⟨a, kk, b1, l1, e1, _, _, _⟩ | ⟨e1, _, _, _⟩
      · rcases cases_ n with hl | ⟨a', haσ, hl⟩ | ⟨a', haτ, hl⟩
        · rw [hl] at l1; cases l1
        · rw [hl] at l1
          injection l1 with l1
          injection l1 with l1 _
          subst l1
          have h3 : 1000 ≤ a' := Nat.le_of_ble_eq_true (List.all_eq_true.1 h1 _ haσ)
          have h4 := k6 a' h3 (by rw [e1]; simp)
          intro e
          rw [(hinat haσ).1, e] at h4
          exact h4 rfl
        · have h3 := List.all_eq_true.1 h2 _ haτ
          rw [Nat.ble_eq_true_of_le hn] at h3
          cases h3
      · rw [e1]; simp

theorem inV_pure {m : Mem} {σ : List (Nat × Nat)} : ∀ (n : Nat) (x : V), SizeOf.sizeOf x ≤ n → x.pure = true → inV m σ x = x
  | 0, x, h, _ => by cases x <;> simp at h
  | n + 1, x, h, hp => by
    have hL : ∀ xs : List V, SizeOf.sizeOf xs ≤ n → (∀ y ∈ xs, y.pure = true) → xs.map (inV m σ) = xs := fun xs hs hy => by
      conv => rhs; rw [← List.map_id xs]
      refine List.map_congr_left fun y hyx => inV_pure n y ?_ (hy y hyx)
      have := List.sizeOf_lt_of_mem hyx
      omega
    cases x with
    | agg xs => simp only [inV, inL_eq]; rw [hL xs (by simp at h; omega) ((okL_iff _ _).1 hp)]
    | tup xs => simp only [inV, inL_eq]; rw [hL xs (by simp at h; omega) ((okL_iff _ _).1 hp)]
    | fn f xs => simp only [inV, inL_eq]; rw [hL xs (by simp at h; omega) ((okL_iff _ _).1 hp)]
    | iface t x => simp only [inV]; rw [inV_pure n x (by simp at h; omega) hp]
    | ptr => cases hp
    | gl => cases hp
    | msl => cases hp
    | _ => rfl
theorem outV_pure {θ : List (Nat × Nat × Nat)} : ∀ (n : Nat) (x : V), SizeOf.sizeOf x ≤ n → x.pure = true → outV θ x = x
  | 0, x, h, _ => by cases x <;> simp at h
  | n + 1, x, h, hp => by
    have hL : ∀ xs : List V, SizeOf.sizeOf xs ≤ n → (∀ y ∈ xs, y.pure = true) → xs.map (outV θ) = xs := fun xs hs hy => by
      conv => rhs; rw [← List.map_id xs]
      refine List.map_congr_left fun y hyx => outV_pure n y ?_ (hy y hyx)
      have := List.sizeOf_lt_of_mem hyx
      omega
    cases x with
    | agg xs => simp only [outV, outL_eq]; rw [hL xs (by simp at h; omega) ((okL_iff _ _).1 hp)]
    | tup xs => simp only [outV, outL_eq]; rw [hL xs (by simp at h; omega) ((okL_iff _ _).1 hp)]
    | fn f xs => simp only [outV, outL_eq]; rw [hL xs (by simp at h; omega) ((okL_iff _ _).1 hp)]
    | iface t x => simp only [outV]; rw [outV_pure n x (by simp at h; omega) hp]
    | ptr => cases hp
    | gl => cases hp
    | msl => cases hp
    | _ => rfl
end Go.Ab

/- More rules. -/
namespace Go.Ab

def setM : List (Nat × Blk) → Nat → Blk → List (Nat × Blk)
  | [], n, b => [(n, b)]
  | (k, b0) :: M, n, b => match Nat.beq n k with | true => (k, b) :: M | false => (k, b0) :: setM M n b
theorem mupd_memOf (M : List (Nat × Blk)) (n : Nat) (b : Blk) : mupd (memOf M) n b = memOf (setM M n b) := by
  funext i
  induction M with
  | nil =>
    simp only [mupd, setM, memOf]
    cases Nat.beq i n <;> rfl
  | cons p M ih =>
    obtain ⟨k, b0⟩ := p
    simp only [setM]
    cases hb : Nat.beq n k with
    | true =>
      have := Nat.eq_of_beq_eq_true hb
      subst this
      simp only [mupd, memOf]
      cases Nat.beq i n <;> rfl
    | false =>
      simp only [mupd, memOf] at ih ⊢
      cases hk : Nat.beq i k with
      | true =>
        have := Nat.eq_of_beq_eq_true hk
        subst this
        have : Nat.beq i n = false := by
          cases h : Nat.beq i n with
          | false => rfl
          | true => have := Nat.eq_of_beq_eq_true h; subst this; rw [Nat.beq_refl] at hb; cases hb
        simp only [this]
      | false => exact ih

/-- Arguments that say less. -/
theorem CallOK.weakArgs {P : Program} {G : Given} {f : FuncId} {args args' : List V} {m : Mem} {Post : V → Mem → Prop} (h : CallOK P G f args' m Post) (ha : VThL m m args args') : CallOK P G f args m Post :=
  ⟨fun c w vs h1 h2 h3 h4 => h.run c w vs h1 h2 h3 (by
    obtain ⟨a, b⟩ := ha.at_ h2 h2 rfl (fun _ _ => ⟨rfl, rfl⟩) h4.1 h4.2
    exact ⟨a, b⟩)⟩
/-- A memory that says less: names that are not needed. -/
theorem CallOK.weakPure {P : Program} {G : Given} {f : FuncId} {args : List V} {r : V} (h : PureOK P G f args r) (hp : args.all V.pure = true) (m : Mem) {K : V → Mem → Prop} (hK : K r m) : CallOK P G f args m K :=
  (h.call (fun x hx => List.all_eq_true.1 hp x hx) m).mono fun r' m' ⟨h1, h2⟩ => by rw [h1, h2]; exact hK

/-- What a call left, as a list. -/
def outL (θ0 : List (Nat × Nat × Nat)) (m1 : Mem) (M : List (Nat × Blk)) : List (Nat × Nat × Nat) → List (Nat × Blk)
  | [] => M
  | (a, n, k) :: r => match m1 a with
    | some b => setM (outL θ0 m1 M r) n (outB θ0 k b)
    | none => outL θ0 m1 M r
theorem outMem_list (θ0 : List (Nat × Nat × Nat)) (m1 : Mem) (M : List (Nat × Blk)) (i : Nat) : ∀ θ : List (Nat × Nat × Nat), apart3 θ = true →
    memOf (outL θ0 m1 M θ) i = (match look3B θ i with
      | some (a, k) => (match m1 a with | some b => some (outB θ0 k b) | none => memOf M i)
      | none => memOf M i)
  | [], _ => rfl
  | (a, n, k) :: r, h => by
    have hr : apart3 r = true := by
      simp only [apart3, List.map_cons, apart, Bool.and_eq_true] at h ⊢
      exact h.2
    have ih := outMem_list θ0 m1 M i r hr
    have hn : look3B r n = none := by
      cases hl : look3B r n with
      | none => rfl
      | some p =>
        have hm := look3B_mem hl
        simp only [apart3, List.map_cons, apart, Bool.and_eq_true] at h
        have := List.all_eq_true.1 h.1 (p.1, n) (List.mem_map.2 ⟨_, hm, rfl⟩)
        simp at this
    simp only [outL, look3B]
    cases h1 : m1 a with
    | some b =>
      simp only []
      rw [← mupd_memOf]
      cases hb : Nat.beq i n with
      | true => simp only [mupd, hb, h1]
      | false => simp only [mupd, hb]; exact ih
    | none =>
      simp only []
      cases hb : Nat.beq i n with
      | true =>
        have := Nat.eq_of_beq_eq_true hb
        subst this
        rw [ih, hn]
        simp only [h1]
      | false => exact ih
theorem outMem_memOf {θ : List (Nat × Nat × Nat)} (h : apart3 θ = true) (M M1 : List (Nat × Blk)) : outMem (memOf M) θ (memOf M1) = memOf (outL θ (memOf M1) M θ) := by
  funext i
  exact (outMem_list θ (memOf M1) M i θ h).symm

/-- The same, the memory as a list. -/
theorem CallOK.renL {P : Program} {G : Given} {f : FuncId} {args0 : List V} {M0 : List (Nat × Blk)} {Post : V → Mem → Prop} (h : CallOK P G f args0 (memOf M0) Post) {args : List V} {m : Mem} {M : List (Nat × Blk)} (σ τ : List (Nat × Nat)) (hm : m = memOf M)
    (hM : M0.map (fun p => (p.1, some p.2)) = σ.map (fun p => (p.1, (memOf M p.2).map (inB (memOf M) σ)))) (ha : args.map (inV (memOf M) σ) = args0) (hap : apart (σ ++ τ) = true) (h1 : σ.all (fun p => Nat.ble 1000 p.1) = true) (h2 : τ.all (fun p => !Nat.ble 1000 p.2) = true)
    {K : V → Mem → Prop} (hK : ∀ r m1, Post r m1 → ∃ M1 r2 M2, m1 = memOf M1 ∧ outV (theta (memOf M) σ τ) r = r2 ∧ outL (theta (memOf M) σ τ) (memOf M1) M (theta (memOf M) σ τ) = M2 ∧ K r2 (memOf M2)) : CallOK P G f args m K := by
  subst hm
  refine h.ren σ τ hM ha hap h1 h2 fun r m1 hp => ?_
  obtain ⟨M1, r2, M2, rfl, rfl, rfl, hk⟩ := hK r m1 hp
  rw [outMem_memOf (theta_apart hap)]
  exact hk

/-! ### Calls that look, and leave all as it was -/
def keptAll (m m1 : Mem) (θ0 : List (Nat × Nat × Nat)) : List (Nat × Nat × Nat) → Prop
  | [] => True
  | q :: θ => (∃ b, m1 q.1 = some b ∧ m q.2.1 = some (outB θ0 q.2.2 b)) ∧ keptAll m m1 θ0 θ
theorem keptAll_at {m m1 : Mem} {θ0 : List (Nat × Nat × Nat)} : ∀ {θ}, keptAll m m1 θ0 θ → ∀ q ∈ θ, ∃ b, m1 q.1 = some b ∧ m q.2.1 = some (outB θ0 q.2.2 b)
  | [], _, q, h => by cases h
  | p :: θ, h, q, hq => by
    rcases List.mem_cons.1 hq with rfl | hq
    · exact h.1
    · exact keptAll_at h.2 q hq
theorem outMem_kept {m m1 : Mem} {θ : List (Nat × Nat × Nat)} (h : keptAll m m1 θ θ) : outMem m θ m1 = m := by
  funext n
  unfold outMem
  cases hl : look3B θ n with
  | none => rfl
  | some p =>
    obtain ⟨b, h1, h2⟩ := keptAll_at h _ (look3B_mem hl)
    simp only at h1 h2 ⊢
    rw [h1]
    exact h2.symm
theorem CallOK.look {P : Program} {G : Given} {f : FuncId} {args0 : List V} {M0 : List (Nat × Blk)} {r0 r : V} (h : CallOK P G f args0 (memOf M0) (fun r' m' => r' = r0 ∧ m' = memOf M0)) {args : List V} {m : Mem} (σ : List (Nat × Nat))
    (hM : M0.map (fun p => (p.1, some p.2)) = σ.map (fun p => (p.1, (m p.2).map (inB m σ)))) (ha : args.map (inV m σ) = args0) (hap : apart (σ ++ []) = true) (h1 : σ.all (fun p => Nat.ble 1000 p.1) = true)
    (hr : outV (theta m σ []) r0 = r) (hk : keptAll m (memOf M0) (theta m σ []) (theta m σ [])) : CallOK P G f args m (fun r' m' => r' = r ∧ m' = m) :=
  h.ren σ [] hM ha hap h1 rfl fun r' m1 ⟨e1, e2⟩ => by
    subst e1 e2
    exact ⟨hr, outMem_kept hk⟩
theorem mupd_known {m : Mem} {n : Nat} {b : Blk} (h : m n = some b) : mupd m n b = m := by
  funext i
  unfold mupd
  cases hb : Nat.beq i n with
  | false => rfl
  | true => rw [Nat.eq_of_beq_eq_true hb, h]
theorem known2 {m : Mem} {n k : Nat} {b b' : Blk} (h : m n = some b) (h' : m k = some b') : m = mupd (mupd m n b) k b' := by rw [mupd_known h, mupd_known h']
end Go.Ab

/- Values and blocks that say less, by a check that evaluates; functions of values alone; loops. -/
namespace Go.Ab

def ptrM (m m' : Mem) (n g g' : Nat) : Prop := match m n, m' n with
  | some (.row g1 sz1 _), some (.row g2 sz2 _) => g1 = g ∧ g2 = g' ∧ sz1 = sz2
  | _, _ => False
def mslM (m m' : Mem) (n g g' : Nat) : Prop := match m n, m' n with
  | some (.row g1 sz1 es1), some (.row g2 sz2 es2) => g1 = g ∧ g2 = g' ∧ sz1 = sz2 ∧ es2.length = es1.length
  | _, _ => False
def glM (m m' : Mem) (n g g' sz : Nat) : Prop := match m n, m' n with
  | some (.tok g1 sz1 l1 r1), some (.tok g2 sz2 l2 r2) => g1 = g ∧ g2 = g' ∧ sz1 = sz ∧ sz2 = sz ∧ l1 = l2 ∧ r1 = r2
  | _, _ => False

/-- The first value says as much as the second. -/
def Conv (m m' : Mem) : V → V → Prop
  | _, .any => True
  | .gl _ _ sz xs, .list sz' ys => sz = sz' ∧ xs = ys
  | .gl n g sz xs, .gl n' g' sz' ys => n = n' ∧ sz = sz' ∧ xs = ys ∧ glM m m' n g g' sz
  | .ptr n g i j, .ptr n' g' i' j' => n = n' ∧ i = i' ∧ j = j' ∧ ptrM m m' n g g'
  | .msl n g o l, .msl n' g' o' l' => n = n' ∧ o = o' ∧ l = l' ∧ mslM m m' n g g'
  | .esl, .gl n g sz ys => ys = [] ∧ m' n = some (.tok g sz 0 false)
  | .esl, .list _ ys => ys = []
  | .agg xs, .agg ys => convL xs ys
  | .tup xs, .tup ys => convL xs ys
  | .fn f xs, .fn f' ys => f = f' ∧ convL xs ys
  | .iface t x, .iface t' y => t = t' ∧ Conv m m' x y
  | x, y => x = y ∧ y.pure = true
where convL : List V → List V → Prop
  | [], [] => True
  | x :: xs, y :: ys => Conv m m' x y ∧ convL xs ys
  | _, _ => False

theorem Conv.vth {m m' : Mem} : ∀ (n : Nat) (x y : V), SizeOf.sizeOf x ≤ n → Conv m m' x y → VTh m m' x y := by
  intro n
  induction n with
  | zero => intro x y h; cases x <;> simp at h
  | succ n ih =>
    have hL : ∀ (xs ys : List V), SizeOf.sizeOf xs ≤ n → Conv.convL m m' xs ys → VThL m m' xs ys := by
      intro xs
      induction xs with
      | nil => intro ys _ h; cases ys <;> simp_all [Conv.convL, VThL]
      | cons x xs ihx =>
        intro ys hs h
        cases ys with
        | nil => simp [Conv.convL] at h
        | cons y ys =>
          simp at hs
          simp only [Conv.convL] at h
          exact ⟨ih x y (by omega) h.1, ihx ys (by omega) h.2⟩
    intro x y hs h
    unfold Conv at h
    split at h
    · exact .any
    · obtain ⟨rfl, rfl⟩ := h; exact .gl_list
    · obtain ⟨rfl, rfl, rfl, h⟩ := h
      unfold glM at h
      split at h
      · rename_i g1 sz1 l1 r1 g2 sz2 l2 r2 h1 h2
        obtain ⟨rfl, rfl, rfl, e, rfl, rfl⟩ := h
        subst e
        exact .gl h1 h2
      · exact h.elim
    · obtain ⟨rfl, rfl, rfl, h⟩ := h
      unfold ptrM at h
      split at h
      · rename_i h1 h2
        obtain ⟨rfl, rfl, rfl⟩ := h
        exact .ptr h1 h2
      · exact h.elim
    · obtain ⟨rfl, rfl, rfl, h⟩ := h
      unfold mslM at h
      split at h
      · rename_i h1 h2
        obtain ⟨rfl, rfl, rfl, hl⟩ := h
        exact .msl h1 h2 hl
      · exact h.elim
    · obtain ⟨rfl, h⟩ := h; exact .esl_gl h
    · subst h; exact .esl_list
    · exact .agg (hL _ _ (by simp at hs; omega) h)
    · exact .tup (hL _ _ (by simp at hs; omega) h)
    · obtain ⟨rfl, h⟩ := h; exact .fn (hL _ _ (by simp at hs; omega) h)
    · obtain ⟨rfl, h⟩ := h; exact .iface (ih _ _ (by simp at hs; omega) h)
    · obtain ⟨rfl, h⟩ := h; exact .pure h
theorem VTh.conv {m m' : Mem} {x y : V} (h : Conv m m' x y) : VTh m m' x y := Conv.vth _ x y (Nat.le_refl _) h
theorem VThL.conv {m m' : Mem} : ∀ {xs ys : List V}, Conv.convL m m' xs ys → VThL m m' xs ys
  | [], [], _ => trivial
  | x :: xs, y :: ys, h => by simp only [Conv.convL] at h; exact ⟨.conv h.1, VThL.conv h.2⟩
  | [], _ :: _, h => by simp [Conv.convL] at h
  | _ :: _, [], h => by simp [Conv.convL] at h
def convEls (m m' : Mem) : List V → List V → Prop
  | [], [] => True
  | x :: xs, y :: ys => Conv.convL m m' (leaves x) (leaves y) ∧ convEls m m' xs ys
  | _, _ => False
theorem EThL.conv {m m' : Mem} : ∀ {xs ys : List V}, convEls m m' xs ys → EThL m m' xs ys
  | [], [], _ => trivial
  | x :: xs, y :: ys, h => by simp only [convEls] at h; exact ⟨VThL.conv h.1, EThL.conv h.2⟩
  | [], _ :: _, h => by simp [convEls] at h
  | _ :: _, [], h => by simp [convEls] at h

def convE (m m' : Mem) (env : Env) : List (Nat × V) → Prop
  | [] => True
  | (t, v) :: ps => Conv m m' (env t) v ∧ convE m m' env ps
theorem convE.vth {m m' : Mem} {env : Env} : ∀ {E : List (Nat × V)}, convE m m' env E → ∀ p ∈ E, VTh m m' (env p.1) p.2
  | [], _, p, hp => by cases hp
  | (t, v) :: ps, h, p, hp => by
    simp only [convE] at h
    rcases List.mem_cons.1 hp with rfl | hp
    · exact .conv h.1
    · exact convE.vth h.2 p hp

theorem BTh.rowL {m m' : Mem} {n g sz g' : Nat} {es es' : List V} (h : m n = some (.row g sz es)) (hg : (match Nat.ble 1000 n with | true => g' = g | false => True)) (he : convEls m m' es es') : BTh m m' n (.row g' sz es') :=
  .row g sz es g' es' h (fun hn => by rw [hn] at hg; exact hg) (.conv he)
theorem BTh.rowP {m m' : Mem} {n g sz g' : Nat} {es : List V} (h : m n = some (.row g sz es)) (hg : (match Nat.ble 1000 n with | true => g' = g | false => True)) (he : ∀ x ∈ es, x.pure = true) : BTh m m' n (.row g' sz es) :=
  .row g sz es g' es h (fun hn => by rw [hn] at hg; exact hg) (.pure he)
def convM (m m' : Mem) : List (Nat × Blk) → Prop
  | [] => True
  | (n, b) :: ps => BTh m m' n b ∧ convM m m' ps
theorem convM.bth {m m' : Mem} : ∀ {M : List (Nat × Blk)}, convM m m' M → ∀ p ∈ M, BTh m m' p.1 p.2
  | [], _, p, hp => by cases hp
  | (n, b) :: ps, h, p, hp => by
    rcases List.mem_cons.1 hp with rfl | hp
    · exact h.1
    · exact convM.bth h.2 p hp
theorem Le.conv {cf : Cfg} {env : Env} {mem : Mem} {E : List (Nat × V)} {M : List (Nat × Blk)} (hE : convE mem (memOf M) env E) (hM : convM mem (memOf M) M) : Le cf ⟨env, mem⟩ ⟨envOf E, memOf M⟩ :=
  .of hE.vth hM.bth

/-! ### Functions of values alone -/
/-- What comes back, of a value. -/
structure RetV (r : V) (r' : V) (m' : Mem) : Prop where
  is : VTh m' (fun _ => none) r' r
theorem RetV.conv {r r' : V} {m' : Mem} (h : Conv m' (fun _ => none) r' r) : RetV r r' m' := ⟨.conv h⟩
def memN (k : Nat) : List Nat → Bool
  | [] => false
  | x :: xs => match Nat.beq k x with | true => true | false => memN k xs
def mdOf (wide gl : List Nat) (k : Nat) : Md := match memN k wide with
  | true => .wide
  | false => match memN k gl with
    | true => .gl
    | false => .ls
theorem PureOK.body {cf : Cfg} (hty : ∀ t, TyOk cf.P t (cf.ty t)) {f : FuncId} {fn : Func} {code : Code} (hf : Fits cf f fn code) {rs : List ResultVar} (hrs : fn.results.toList = rs) {args : List V} {r : V} (hlen : args.length ≤ cf.N)
    (h : vcCR cf code (argEnv args) (memOf []) fun e env mem => match e with
      | .normal => RetOK cf rs (RetV r) env mem
      | .ret => RetOK cf rs (RetV r) env mem
      | _ => False) : PureOK cf.P cf.G f args r := by
  have main : CallOK cf.P cf.G f args (fun _ => none) fun r' m' => RetV r r' m' := by
    have e0 : memOf [] = fun _ => none := by funext k; rfl
    rw [e0] at h
    exact CallOK.of_body hty hf hrs hlen (fun _ _ => rfl) (fun _ _ _ _ h => absurd rfl h) h
  refine ⟨fun c w vs hs hm hg hr => (main.run c w vs hs hm hg hr).mono fun v w' ⟨c', r', h1, h2, h3, h4, h5, h6⟩ => ?_⟩
  refine ⟨c'.bare, r, ⟨rfl, rfl⟩, ⟨h2.os, h2.tape, h2.output, h2.size, h2.frame, h2.S, h2.newS, fun k ⟨n, hn, _⟩ => absurd rfl hn⟩, ⟨h2.S, fun n => ?_⟩, ⟨h4.stab, fun n b hb => (by cases hb), fun n n' k hn => absurd rfl hn⟩, h1.is c' c'.bare rfl rfl rfl (fun _ _ => ⟨rfl, rfl⟩) v h5, fun n _ hn => absurd rfl hn⟩
  unfold MonoAt
  rw [hm]
  trivial

/-- A call of a function of values alone. -/
theorem PureOK.use {P : Program} {G : Given} {f : FuncId} {args' : List V} {r : V} (h : PureOK P G f args' r) {args : List V} {m : Mem} (ha : VThL m (fun _ => none) args args') {K : V → Mem → Prop} (hK : K r m) : CallOK P G f args m K := by
  refine ⟨fun c w vs hs hm hg hr => ?_⟩
  have hs0 : Sim c.bare w := ⟨hs.stab, fun n b hb => (by cases hb), fun n n' k hn => absurd rfl hn⟩
  have hr' : Rs c.bare args' vs := by
    obtain ⟨e1, e2⟩ := ha.at_ (c := c) (c' := c.bare) hm rfl rfl (fun _ _ => ⟨rfl, rfl⟩) hr.1 hr.2
    exact ⟨e1, e2⟩
  refine (h.run c.bare w vs hs0 rfl hg hr').mono fun v w' ⟨c', r', ⟨e1, hm'⟩, h1, h2, h3, h4, h5⟩ => ?_
  subst e1
  have noown : ∀ k, ¬ Owns c.bare k := fun k ⟨n, hn, _⟩ => hn rfl
  have hold : ∀ k, k < w.heap.size → w'.heap[k]? = w.heap[k]? := fun k hk => h1.frame k hk (noown k)
  let c'' : Cx := { S := c'.S, ι := c.ι, cap := c.cap, mem := c.mem }
  have hmono : Mono c c'' := ⟨h1.S, fun n => .same rfl rfl rfl⟩
  refine ⟨c'', r', by show K r' c.mem; rw [hm]; exact hK, ⟨h1.os, h1.tape, h1.output, h1.size, fun k hk _ => hold k hk, h1.S, fun b o v hv => ?_, fun k hk => .inr hk⟩, hmono, ⟨h3.stab, fun n b hb => ?_, hs.inj⟩, ?_, fun n _ h => h⟩
  · rcases h1.newS b o v hv with h | h | h
    · exact .inl h
    · exact .inr (.inl h)
    · exact absurd h (noown b)
  · have hlt : ∀ k, c.ι n = some k → k < w.heap.size := fun k hk => hs.ι_lt (by rw [show c.mem n = some b from hb]; simp) hk
    refine (hs.ok n b hb).keep rfl rfl (fun k hk => hold k (hlt k hk)) (fun _ _ h => hmono.R h) (fun k o hk hn => ?_)
    cases hv : c''.S k o with
    | none => rfl
    | some v =>
      rcases h1.newS k o v hv with h | h | h
      · rw [show c.bare.S k o = c.S k o from rfl, hn] at h; cases h
      · have := hlt k hk; omega
      · exact absurd h (noown k)
  · have : c'.bare = c' := by
      cases c'; simp only [Cx.bare] at hm' ⊢; rw [hm']
    rw [← this] at h4
    exact R.bare_any (c := c') (c' := c'') (fun _ _ _ h => h) h4
theorem PureOK.conv {P : Program} {G : Given} {f : FuncId} {args' : List V} {r : V} (h : PureOK P G f args' r) {args : List V} {m : Mem} (ha : Conv.convL m (fun _ => none) args args') {K : V → Mem → Prop} (hK : K r m) : CallOK P G f args m K := h.use (.conv ha) hK
/-- The same, in a region that draws its order. -/
theorem PureOK.drawn {P : Program} {G : Given} {f : FuncId} {args : List V} {r : V} (h : PureOK P G f args r) (ha : args.all V.pure = true) (m : Mem) : CallOK P G f args m fun r' m' => r' = r ∧ m' = m := h.call (fun x hx => List.all_eq_true.1 ha x hx) m

/-! ### The memory at a function's end -/
theorem weak_mem {c : Cx} {w : World} (hs : Sim c w) {M : List (Nat × Blk)} (hM : ∀ p ∈ M, BTh c.mem (memOf M) p.1 p.2) :
    ∃ c' : Cx, c'.mem = memOf M ∧ c'.S = c.S ∧ (∀ n, c.mem n ≠ none → c'.ι n = c.ι n ∧ c'.cap n = c.cap n) ∧ Sim c' w ∧ (∀ k, Owns c' k → Owns c k) ∧ ∀ n, 1000 ≤ n → c'.mem n ≠ none → MonoAt c c' n ∧ c.mem n ≠ none := by
  let c' : Cx := { S := c.S, ι := fun n => match c.mem n with | some _ => c.ι n | none => none, cap := c.cap, mem := memOf M }
  have hι : ∀ n, c.mem n ≠ none → c'.ι n = c.ι n := fun n hn => by
    simp only [c']; split
    · rfl
    · rename_i h; exact absurd h hn
  have h4 : ∀ n, c.mem n ≠ none → c'.ι n = c.ι n ∧ c'.cap n = c.cap n := fun n hn => ⟨hι n hn, rfl⟩
  have hV : ∀ {x x' : V} {v : Value}, VTh c.mem (memOf M) x x' → R c x v → R c' x' v := fun h hr => h c c' rfl rfl rfl h4 _ hr
  have howns : ∀ k, Owns c' k → Owns c k := by
    rintro k ⟨n, hn, hk⟩
    cases hm : c.mem n with
    | none => simp only [c', hm] at hk; cases hk
    | some b =>
      rw [hι n (by rw [hm]; simp)] at hk
      exact ⟨n, by rw [hm]; simp, hk⟩
  refine ⟨c', rfl, rfl, h4, ⟨hs.stab, fun n b hb => ?_, fun n n' k hn hn' h1 h2 => ?_⟩, howns, fun n hn hne => ?_⟩
  · have hB := hM _ (memOf_mem hb)
    simp only at hB
    cases hB with
    | row g sz es g' es' h hg he =>
      have hn : c.mem n ≠ none := by rw [h]; simp
      obtain ⟨k, cs, T, fr, a1, a2, a3, a4, a5, a6, a7⟩ := hs.ok n _ h
      obtain ⟨e1, e2⟩ := he.spec
      have hx : ∀ (i : Nat) (x' : V), es'[i]? = some x' → ∃ x, es[i]? = some x ∧ ETh c.mem (memOf M) x x' := fun i x' hx' => by
        have hlt : i < es.length := by rw [← e1]; exact (List.getElem?_eq_some_iff.1 hx').1
        exact ⟨es[i], List.getElem?_eq_getElem hlt, e2 i _ x' (List.getElem?_eq_getElem hlt) hx'⟩
      refine ⟨k, cs, T, fr, (hι n hn).trans a1, a2, by rw [e1]; exact a3, a4, fun x' hx' => ?_, fun i x' j y' h1 h2 => ?_, a7⟩
      · obtain ⟨i, hi'⟩ := List.getElem?_of_mem hx'
        obtain ⟨x, g1, g2⟩ := hx i x' hi'
        rw [g2.spec.1]; exact a5 x (mem_of_at g1)
      · obtain ⟨x, g1, g2⟩ := hx i x' h1
        have hlt : j < (leaves x).length := by rw [← g2.spec.1]; exact (List.getElem?_eq_some_iff.1 h2).1
        obtain ⟨v, k1, k2⟩ := a6 i x j _ g1 (List.getElem?_eq_getElem hlt)
        exact ⟨v, k1, hV (g2.spec.2 j _ y' (List.getElem?_eq_getElem hlt) h2) k2⟩
    | tok g sz len r g' h hn =>
      have hn' : c.mem n ≠ none := by rw [h]; simp
      have := hs.ok n _ h
      cases r with
      | true =>
        obtain ⟨k, cs, T, fr, a1, a2, a3, a4, a5, a6⟩ := this
        exact ⟨k, cs, T, fr, (hι n hn').trans a1, a2, a3, a4, a5, a6⟩
      | false => exact (hι n hn').trans this
    | same g sz len r g' h hg =>
      have hn' : c.mem n ≠ none := by rw [h]; simp
      have := hs.ok n _ h
      cases r with
      | true =>
        obtain ⟨k, cs, T, fr, a1, a2, a3, a4, a5, a6⟩ := this
        exact ⟨k, cs, T, fr, (hι n hn').trans a1, a2, a3, a4, a5, a6⟩
      | false => exact (hι n hn').trans this
    | new g sz h hn => show c'.ι n = none; simp only [c', h]
  · have hs' : ∀ n, c'.ι n = some k → c.mem n ≠ none := fun n h hm => by simp only [c', hm] at h; cases h
    have e1 := hs' n h1
    have e2 := hs' n' h2
    exact hs.inj n n' k e1 e2 ((hι n e1).symm.trans h1) ((hι n' e2).symm.trans h2)
  · cases hb : memOf M n with
    | none => exact absurd hb hne
    | some b =>
      have hB := hM _ (memOf_mem hb)
      simp only at hB
      have hble : Nat.ble 1000 n = true := Nat.ble_eq_true_of_le hn
      cases hB with
      | tok g sz len r g' h hn => rw [hble] at hn; cases hn
      | new g sz h hn => rw [hble] at hn; cases hn
      | same g sz len r g' h hg =>
        refine ⟨.of fun b hb' => ?_, by rw [h]; simp⟩
        rw [h] at hb'
        injection hb' with hb'
        subst hb'
        refine ⟨_, hb, ?_⟩
        rcases Nat.lt_or_eq_of_le hg with hlt | rfl
        · exact .inl hlt
        · exact .inr ⟨hι n (by rw [h]; simp), rfl, Blk.like_refl _⟩
      | row g sz es g' es' h hg he =>
        have hg := hg hble
        subst hg
        refine ⟨.of fun b hb' => ?_, by rw [h]; simp⟩
        rw [h] at hb'
        injection hb' with hb'
        subst hb'
        exact ⟨_, hb, .inr ⟨hι n (by rw [h]; simp), rfl, es', rfl, he.spec.1⟩⟩
/-- What comes back, and what is left: as much is said of it as is wanted. -/
structure RetM (Post : V → Mem → Prop) (r' : V) (m' : Mem) : Prop where
  is : ∃ (M : List (Nat × Blk)) (r : V), VTh m' (memOf M) r' r ∧ (∀ p ∈ M, BTh m' (memOf M) p.1 p.2) ∧ Post r (memOf M)
theorem VTh.refl (m : Mem) (x : V) : VTh m m x x := fun c c' h1 h2 h3 h4 v hr => hr.transfer (by rw [h3]; exact fun _ _ _ h => h) (p := fun _ => true) (fun n _ => by
  by_cases hn : m n = none
  · unfold MonoAt; rw [h1, hn]; trivial
  · exact .same (by rw [h1, h2]) (h4 n hn).1 (h4 n hn).2) (ok_true x)
theorem VThL.refl (m : Mem) : ∀ xs : List V, VThL m m xs xs
  | [] => trivial
  | x :: xs => ⟨.refl m x, VThL.refl m xs⟩
theorem EThL.refl (m : Mem) : ∀ xs : List V, EThL m m xs xs
  | [] => trivial
  | x :: xs => ⟨VThL.refl m _, EThL.refl m xs⟩
theorem BTh.refl {m : Mem} {n : Nat} {b : Blk} (h : m n = some b) : BTh m m n b := by
  cases b with
  | row g sz es => exact .row g sz es g es h (fun _ => rfl) (EThL.refl m es)
  | tok g sz len r => exact .same g sz len r g h (Nat.le_refl _)
/-- Each name once. -/
def keyed : List (Nat × Blk) → Bool
  | [] => true
  | (n, _) :: M => M.all (fun p => !Nat.beq p.1 n) && keyed M
theorem memOf_keyed {M : List (Nat × Blk)} (h : keyed M = true) {p : Nat × Blk} (hp : p ∈ M) : memOf M p.1 = some p.2 := by
  induction M with
  | nil => cases hp
  | cons q M ih =>
    obtain ⟨k, b⟩ := q
    simp only [keyed, Bool.and_eq_true] at h
    rcases List.mem_cons.1 hp with rfl | hp
    · simp [memOf]
    · have := List.all_eq_true.1 h.1 p hp
      unfold memOf
      cases hb : Nat.beq p.1 k with
      | true => rw [hb] at this; cases this
      | false => exact ih h.2 hp
theorem RetM.same {Post : V → Mem → Prop} {r : V} {M : List (Nat × Blk)} (hk : keyed M = true) (h : Post r (memOf M)) : RetM Post r (memOf M) := ⟨M, r, .refl _ _, fun _ hp => .refl (memOf_keyed hk hp), h⟩
theorem CallOK.weakPost {P : Program} {G : Given} {f : FuncId} {args : List V} {m : Mem} {Post : V → Mem → Prop} (hm : ∀ n, n < 1000 → m n = none) (hpost : ∀ r m', Post r m' → ∀ n, m n ≠ none → m' n ≠ none) (h : CallOK P G f args m (RetM Post)) : CallOK P G f args m Post :=
  ⟨fun c w vs h1 h2 h3 h4 => (h.run c w vs h1 h2 h3 h4).mono fun v w' ⟨c1, r1, ⟨M, r, e1, e2, e3⟩, k2, k3, k4, k5, k6⟩ => by
    obtain ⟨c', f1, f2, f3, f4, f5, f6⟩ := weak_mem k4 e2
    have hr : R c' r v := e1 c1 c' rfl f1 f2 f3 v k5
    refine ⟨c', r, by rw [f1]; exact e3, ⟨k2.os, k2.tape, k2.output, k2.size, k2.frame, fun b o v hv => by rw [f2]; exact k2.S b o v hv, fun b o v hv => k2.newS b o v (by rw [f2] at hv; exact hv), fun k hk => k2.own k (f5 k hk)⟩, ⟨fun b o v hv => by rw [f2]; exact k2.S b o v hv, fun n => ?_⟩, f4, hr, fun n hn hne => k6 n hn (f6 n hn hne).2⟩
    cases hb : c.mem n with
    | none => unfold MonoAt; rw [hb]; trivial
    | some b =>
      have hn : 1000 ≤ n := by
        rcases Nat.lt_or_ge n 1000 with h | h
        · rw [h2, hm n h] at hb; cases hb
        · exact h
      have := hpost _ _ e3 n (by rw [← h2, hb]; simp)
      exact (k3.at_ n).trans (f6 n hn (by rw [f1]; exact this)).1⟩

theorem RetOK.drop {cf : Cfg} {rs : List ResultVar} {Post : V → Mem → Prop} {env : Env} {mem : Mem} {n g sz len : Nat} {r : Bool} (g' sz' : Nat) (hm : mem n = some (.tok g sz len r)) (hg : g < g') (h : RetOK cf rs Post env (mupd mem n (.tok g' sz' 0 false))) : RetOK cf rs Post env mem :=
  let ⟨st1, h1, h2⟩ := h.ex
  ⟨st1, (Le.drop hm g' sz' hg).trans h1, h2⟩

/-! ### Functions that know some of the memory -/
theorem memOf_some {M : List (Nat × Blk)} {p : Nat × Blk} (h : p ∈ M) : (memOf M p.1).isSome = true := by
  induction M with
  | nil => cases h
  | cons q M ih =>
    obtain ⟨k, b⟩ := q
    unfold memOf
    cases hb : Nat.beq p.1 k with
    | true => rfl
    | false =>
      rcases List.mem_cons.1 h with rfl | h
      · rw [Nat.beq_refl] at hb; cases hb
      · exact ih h
theorem memOf_all (M : List (Nat × Blk)) : M.all (fun p => (memOf M p.1).isSome) = true := List.all_eq_true.2 fun _ hp => memOf_some hp

theorem CallOK.bodyM {cf : Cfg} (hty : ∀ t, TyOk cf.P t (cf.ty t)) {f : FuncId} {fn : Func} {code : Code} (hf : Fits cf f fn code) {rs : List ResultVar} (hrs : fn.results.toList = rs) {args : List V} {M : List (Nat × Blk)} {Post : V → Mem → Prop}
    (hlen : args.length ≤ cf.N) (hM : M.all (fun p => Nat.ble 1000 p.1) = true) (hpost : ∀ r m', Post r m' → ∃ M', m' = memOf M' ∧ M.all (fun p => (memOf M' p.1).isSome) = true)
    (h : vcCR cf code (argEnv args) (memOf M) fun e env mem => match e with
      | .normal => RetOK cf rs (RetM Post) env mem
      | .ret => RetOK cf rs (RetM Post) env mem
      | _ => False) : CallOK cf.P cf.G f args (memOf M) Post := by
  have h1 : ∀ n, n < 1000 → memOf M n = none := fun n hn => by
    cases hm : memOf M n with
    | none => rfl
    | some b => have := List.all_eq_true.1 hM _ (memOf_mem hm); have := Nat.le_of_ble_eq_true this; omega
  have h2 : ∀ r m', Post r m' → ∀ n, memOf M n ≠ none → m' n ≠ none := fun r m' hp n hn => by
    obtain ⟨M', rfl, h2⟩ := hpost r m' hp
    cases hb : memOf M n with
    | none => exact absurd hb hn
    | some b =>
      have := List.all_eq_true.1 h2 _ (memOf_mem hb)
      intro e
      simp only [e] at this
      cases this
  refine CallOK.weakPost h1 h2 (CallOK.of_body hty hf hrs hlen h1 (fun r m' hp n hn => ?_) h)
  obtain ⟨M', r', e1, e2, e3⟩ := hp.is
  have := h2 _ _ e3 n hn
  cases hb : memOf M' n with
  | none => exact absurd hb this
  | some b =>
    intro hnone
    have hB := e2 _ (memOf_mem hb)
    simp only at hB
    cases hB with
    | row g sz es g' es' h => rw [hnone] at h; cases h
    | tok g sz len r g' h => rw [hnone] at h; cases h
    | same g sz len r g' h hg => rw [hnone] at h; cases h
    | new g sz h hlt =>
      have := h1 n (by
        rcases Nat.lt_or_ge n 1000 with h | h
        · exact h
        · rw [Nat.ble_eq_true_of_le h] at hlt; cases hlt)
      exact hn this
/-! ### Pieces of code -/
def bodyOf (f : Func) : Code := match f.body with | some c => c | none => .skip
/-- The k-th loop's body, counted from the outside and from the left; how many there are. -/
def loopsOf : Code → List Code
  | .seq a b => loopsOf a ++ loopsOf b
  | .cond _ a b => loopsOf a ++ loopsOf b
  | .block _ a => loopsOf a
  | .scope a => loopsOf a
  | .loop a => a :: loopsOf a
  | _ => []
def loopK (k : Nat) (f : Func) : Code := match nth (loopsOf (bodyOf f)) k with | some c => c | none => .skip
end Go.Ab

/- The model's entries, and methods. -/
namespace Go.Ab

/-- An entry that only tells. -/
theorem CallOK.tells {P : Program} {G : Given} {f : FuncId} {args : List V} {m : Mem} {r : V} (h : ∀ (c : Cx) (w : World) (vs : List Value), Sim c w → c.mem = m → Rs c args vs → ∃ u, (callFunc f vs.toArray).run P w = .ok (.value u) w ∧ R c r u) :
    CallOK P G f args m fun r' m' => r' = r ∧ m' = m :=
  ⟨fun c w vs hs hm _ hr => by
    obtain ⟨u, h1, h2⟩ := h c w vs hs hm hr
    exact .inr ⟨u, w, h1, c, r, ⟨rfl, hm⟩, .refl c w, .refl c, hs, h2, fun _ _ h => h⟩⟩

/-- An entry that makes a block. -/
theorem CallOK.makes {P : Program} {G : Given} {f : FuncId} {args : List V} {m : Mem} {r : V} {d : Nat} (hd : d < 1000) {sz : Nat} {x : V} (hx : (leaves x).length = sz)
    (h : ∀ (c : Cx) (w : World) (vs : List Value), Sim c w → c.mem = m → Rs c args vs → ∃ u cs T, (callFunc f vs.toArray).run P w = .ok (.value u) (w.alloc (.cells cs T)) ∧ sz ≤ cs.size ∧ (∀ (j : Nat) (y : V), (leaves x)[j]? = some y → ∃ v, cs[j]? = some v ∧ R c y v) ∧
      ∀ c', Mono c c' → c'.ι d = some w.heap.size → c'.mem = mupd m d (.row (ngen m d) sz [x]) → R c' r u) :
    CallOK P G f args m fun r' m' => r' = r ∧ m' = mupd m d (.row (ngen m d) sz [x]) :=
  ⟨fun c w vs hs hm _ hr => by
    subst hm
    obtain ⟨u, cs, T, h1, h2, h3, h4⟩ := h c w vs hs rfl hr
    obtain ⟨c', e1, e2, e3⟩ := new_row hs (Grew.alloc w cs T) d (g := ngen c.mem d) (sz := sz) (es := [x]) (fun b hb => ngen_gt hb) (by simpa using h2) (by simpa using hx) (fun i x' j y a b => by
      cases i with
      | zero => simp only [List.getElem?_cons_zero, Option.some.injEq] at a; subst a; simpa using h3 j y b
      | succ i => simp at a)
    have hmem : c'.mem = mupd c.mem d (.row (ngen c.mem d) sz [x]) := e1.mem
    refine .inr ⟨u, _, h1, c', r, ⟨rfl, hmem⟩, e1.ext, e1.mono, e1.sim, h4 c' e1.mono e2 hmem, fun n hn hne => ?_⟩
    rw [hmem, mupd_other _ _ (by omega)] at hne
    exact hne⟩

theorem R.agg1 {c : Cx} {x : V} {v : Value} (h : R c (.agg [x]) v) : ∃ u, v = .agg #[u] ∧ R c x u := by
  cases h with
  | agg _ vs hl hr =>
    match vs, hl with
    | [u], _ => exact ⟨u, rfl, hr 0 x u rfl rfl⟩
theorem R.agg2 {c : Cx} {x y : V} {v : Value} (h : R c (.agg [x, y]) v) : ∃ u u', v = .agg #[u, u'] ∧ R c x u ∧ R c y u' := by
  cases h with
  | agg _ vs hl hr =>
    match vs, hl with
    | [u, u'], _ => exact ⟨u, u', rfl, hr 0 x u rfl rfl, hr 1 y u' rfl rfl⟩
theorem R.agg3 {c : Cx} {x y z : V} {v : Value} (h : R c (.agg [x, y, z]) v) : ∃ u u' u'', v = .agg #[u, u', u''] ∧ R c x u ∧ R c y u' ∧ R c z u'' := by
  cases h with
  | agg _ vs hl hr =>
    match vs, hl with
    | [u, u', u''], _ => exact ⟨u, u', u'', rfl, hr 0 x u rfl rfl, hr 1 y u' rfl rfl, hr 2 z u'' rfl rfl⟩
theorem R.mk1 {c : Cx} {x : V} {v : Value} (h : R c x v) : R c (.agg [x]) (.agg #[v]) :=
  .agg [x] [v] rfl fun i y u a b => by
    match i with
    | 0 => simp at a b; subst a b; exact h
    | i + 1 => simp at a
theorem R.mk3 {c : Cx} {x y z : V} {u v t : Value} (h1 : R c x u) (h2 : R c y v) (h3 : R c z t) : R c (.agg [x, y, z]) (.agg #[u, v, t]) :=
  .agg [x, y, z] [u, v, t] rfl fun i a b e1 e2 => by
    match i with
    | 0 => simp at e1 e2; subst e1 e2; exact h1
    | 1 => simp at e1 e2; subst e1 e2; exact h2
    | 2 => simp at e1 e2; subst e1 e2; exact h3
    | i + 3 => simp at e1
theorem R.iface_inv {c : Cx} {t : TypeId} {x : V} {v : Value} (h : R c (.iface t x) v) : ∃ u, v = .iface t u ∧ R c x u := by cases h with | iface _ _ u h => exact ⟨u, rfl, h⟩
theorem R.int_inv {c : Cx} {k : IntKind} {n : Int} {v : Value} (h : R c (.int k n) v) : v = .int k n := by cases h; rfl
theorem R.str_inv {c : Cx} {s : List UInt8} {v : Value} (h : R c (.str s) v) : v = .string ⟨s.toArray⟩ := by cases h; rfl
theorem R.ptr_inv {c : Cx} {n g i j sz : Nat} {es : List V} {v : Value} (h : R c (.ptr n g i j) v) (hm : c.mem n = some (.row g sz es)) : ∃ k, c.ι n = some k ∧ v = .pointer (some ⟨k, i * sz + j, none⟩) := by
  obtain ⟨k, h1, h2⟩ := ptr_at h hm (by exact Nat.beq_refl g)
  exact ⟨k, h1, h2⟩
theorem Rs.one {c : Cx} {x : V} {vs : List Value} (h : Rs c [x] vs) : ∃ u, vs = [u] ∧ R c x u := by
  match vs, h.1 with
  | [u], _ => exact ⟨u, rfl, h.2 0 x u rfl rfl⟩
theorem Rs.two {c : Cx} {x y : V} {vs : List Value} (h : Rs c [x, y] vs) : ∃ u u', vs = [u, u'] ∧ R c x u ∧ R c y u' := by
  match vs, h.1 with
  | [u, u'], _ => exact ⟨u, u', rfl, h.2 0 x u rfl rfl, h.2 1 y u' rfl rfl⟩

/-- What a row's only element of one cell is, in the world. -/
theorem Sim.cell1 {c : Cx} {w : World} (hs : Sim c w) {n g : Nat} {x : V} (hm : c.mem n = some (.row g 1 [x])) {k : Nat} (hk : c.ι n = some k) (hx : leaves x = [x]) : ∃ v, w.cell? ⟨k, 0, none⟩ = some v ∧ R c x v := by
  obtain ⟨k0, cs, T, fr, a1, a2, a3, a4, a5, a6, a7⟩ := hs.ok _ _ hm
  rw [hk] at a1; injection a1 with a1; subst a1
  obtain ⟨v, h1, h2⟩ := a6 0 x 0 x rfl (by rw [hx]; rfl)
  exact ⟨v, by simp [World.cell?, a2]; simpa using h1, h2⟩
end Go.Ab

/- What comes in, read as data, stands for abstract values. -/
namespace Go.Ab

/-- All that is there, and nothing that is written. -/
def full (w : World) : Cx := { S := fun b o => w.cell? ⟨b, o, none⟩, ι := fun _ => none, cap := fun _ => 0, mem := fun _ => none }
theorem full_sim (w : World) : Sim (full w) w := ⟨fun _ _ _ h => h, fun _ _ h => (by cases h), fun _ _ _ h => absurd rfl h⟩

/-- A type's cells, read: some a, of which ls are the leaves. -/
structure Opens (P : Program) (t : TypeId) (α : Type) (p : α → Prop) (ls : α → List V) (sz : Nat) : Prop where
  size : P.cellsOf t = sz
  len : ∀ a, (ls a).length = sz
  rd : ∀ {H : Type} (enc : TypeId × Value → H) (w : World) (base : Nat) (spare : Nat → Bool) (held : Bool) (fuel : Nat) (cs : List Value) (x : DataW H × List MemPlace), DataW.trod enc P w base spare held fuel t cs = some x →
    ∃ a, p a ∧ cs.length = sz ∧ ∀ (j : Nat) (y : V), (ls a)[j]? = some y → ∃ v, cs[j]? = some v ∧ R (full w) y v

theorem Opens.map {P : Program} {t : TypeId} {α β : Type} {p : α → Prop} {q : β → Prop} {ls : α → List V} {ls' : β → List V} {sz : Nat} (h : Opens P t α p ls sz) (f : α → β) (hl : ∀ b, (ls' b).length = sz) (hf : ∀ a, p a → q (f a) ∧ ls' (f a) = ls a) : Opens P t β q ls' sz :=
  ⟨h.size, hl, fun enc w base spare held fuel cs x hx => by
    obtain ⟨a, h1, h2, h3⟩ := h.rd enc w base spare held fuel cs x hx
    obtain ⟨e1, e2⟩ := hf a h1
    exact ⟨f a, e1, h2, fun j y hj => h3 j y (by rw [← e2]; exact hj)⟩⟩

theorem one_leaf {w : World} {y0 : V} {v0 : Value} (h : R (full w) y0 v0) : ∀ (j : Nat) (y : V), [y0][j]? = some y → ∃ v, [v0][j]? = some v ∧ R (full w) y v := fun j y hj => by
  cases j with
  | zero => simp at hj; subst hj; exact ⟨v0, rfl, h⟩
  | succ j => simp at hj

def Is64 (n : Int) : Prop := -9223372036854775808 ≤ n ∧ n ≤ 9223372036854775807
theorem Opens.i64 {P : Program} {t : TypeId} (ht : P.underlying t = some (.int .i64)) (hs : P.cellsOf t = 1) : Opens P t Int Is64 (fun n => [.int .i64 n]) 1 :=
  ⟨hs, fun _ => rfl, fun enc w base spare held fuel cs x hx => by
    obtain ⟨n, rfl, _, hw⟩ := DataW.trod_int ht hx
    refine ⟨n, ?_, rfl, one_leaf (.int _ _)⟩
    simp [Lit.wf, IntKind.min, IntKind.max, IntKind.signed, IntKind.bits] at hw
    exact ⟨by omega, by omega⟩⟩
theorem Opens.u8 {P : Program} {t : TypeId} (ht : P.underlying t = some (.int .u8)) (hs : P.cellsOf t = 1) : Opens P t UInt8 (fun _ => True) (fun n => [encB n]) 1 :=
  ⟨hs, fun _ => rfl, fun enc w base spare held fuel cs x hx => by
    obtain ⟨n, rfl, _, hw⟩ := DataW.trod_int ht hx
    simp [Lit.wf, IntKind.min, IntKind.max, IntKind.signed, IntKind.bits] at hw
    refine ⟨UInt8.ofNat n.toNat, trivial, rfl, one_leaf ?_⟩
    have : encB (UInt8.ofNat n.toNat) = .int .u8 n := by
      unfold encB
      rw [UInt8.toNat_ofNat']
      congr 1
      omega
    rw [this]
    exact .int _ _⟩
theorem Opens.bool {P : Program} {t : TypeId} (ht : P.underlying t = some .bool) (hs : P.cellsOf t = 1) : Opens P t Bool (fun _ => True) (fun b => [.bool b]) 1 :=
  ⟨hs, fun _ => rfl, fun enc w base spare held fuel cs x hx => by
    obtain ⟨b, rfl, _⟩ := DataW.trod_bool ht hx
    exact ⟨b, trivial, rfl, one_leaf (.bool _)⟩⟩
theorem Opens.str {P : Program} {t : TypeId} (ht : P.underlying t = some .string) (hs : P.cellsOf t = 1) : Opens P t (List UInt8) (fun s => s.length ≤ maxLen) (fun s => [.str s]) 1 :=
  ⟨hs, fun _ => rfl, fun enc w base spare held fuel cs x hx => by
    obtain ⟨s, rfl, _, hm⟩ := DataW.trod_string ht hx
    refine ⟨s.data.toList, by simpa using hm, rfl, one_leaf ?_⟩
    have := R.str (c := full w) s.data.toList
    rwa [str_back] at this⟩

theorem cells_at {w : World} {base : Nat} {a : Addr} {n : Nat} {cs : List Value} (h : w.cells? base a n = some cs) : cs.length = n ∧ ∀ i, i < n → w.cell? (a.add i) = cs[i]? := by
  unfold World.cells? at h
  split at h
  · have e1 := mapM_some_length h
    refine ⟨by simpa using e1, fun i hi => ?_⟩
    exact mapM_some_get h i i (by simp [hi])
  · cases h
theorem spot_none {w : World} {a : Addr} {v : Value} (h : w.cell? a = some v) : a.spot = none := by
  unfold World.cell? at h
  split at h
  · split at h
    · cases h
    · rename_i hs
      cases ha : a.spot with
      | none => rfl
      | some k => rw [ha] at hs; simp at hs
  · cases h

theorem Opens.slice {P : Program} {t e : TypeId} {β : Type} {p : β → Prop} {f : β → V} {sz : Nat} (he : Opens P e β p (fun b => leaves (f b)) sz) (hpos : 0 < sz) (ht : P.underlying t = some (.slice e)) (hs : P.cellsOf t = 1) :
    Opens P t (List β) (fun l => ∀ b ∈ l, p b) (fun l => [.list sz (l.map f)]) 1 :=
  ⟨hs, fun _ => rfl, fun enc w base spare held fuel cs x hx => by
    rcases DataW.trod_slice ht hx with ⟨rfl, _⟩ | ⟨a, len, cap, elems, rest, n, _, rfl, _, _, hlc, _, hel, hat, _, _⟩
    · exact ⟨[], by simp, rfl, one_leaf (.list sz [] none 0 0 0 (fun _ _ => undef) (fun h => absurd rfl h) (Nat.le_refl _) (by simp) (by simp) (by simp))⟩
    · have main : ∀ k, k ≤ len → ∃ l : List β, l.length = k ∧ (∀ b ∈ l, p b) ∧ ∀ (i : Nat) (b : β), l[i]? = some b → ∃ cs', w.cells? base (a.add (i * P.cellsOf e)) (P.cellsOf e) = some cs' ∧ ∀ (j : Nat) (y : V), (leaves (f b))[j]? = some y → ∃ v, cs'[j]? = some v ∧ R (full w) y v := by
        intro k
        induction k with
        | zero => intro _; exact ⟨[], rfl, by simp, by simp⟩
        | succ k ih =>
          intro hk
          obtain ⟨l, h1, h2, h3⟩ := ih (by omega)
          have hkl : k < elems.length := by omega
          have := hat k (by omega)
          rw [List.getElem?_eq_getElem hkl] at this
          obtain ⟨cs', g1, g2⟩ := Option.bind_eq_some_iff.1 this
          obtain ⟨b, b1, b2, b3⟩ := he.rd enc w base spare held n cs' _ g2
          refine ⟨l ++ [b], by simp [h1], fun b' hb' => ?_, fun i b' hi => ?_⟩
          · rcases List.mem_append.1 hb' with h | h
            · exact h2 b' h
            · rw [List.mem_singleton] at h; subst h; exact b1
          · by_cases hik : i < l.length
            · rw [List.getElem?_append_left hik] at hi; exact h3 i b' hi
            · rw [List.getElem?_append_right (by omega)] at hi
              have hi0 : i - l.length = 0 := by
                rcases Nat.eq_zero_or_pos (i - l.length) with h | h
                · exact h
                · rw [List.getElem?_eq_none (by simp; omega)] at hi; cases hi
              rw [hi0] at hi
              simp at hi
              subst hi
              have : i = k := by omega
              subst this
              exact ⟨cs', g1, b3⟩
      obtain ⟨l, h1, h2, h3⟩ := main len (Nat.le_refl _)
      refine ⟨l, h2, rfl, one_leaf ?_⟩
      have hsz : P.cellsOf e = sz := he.size
      have hcell : ∀ (i : Nat) (b : β) (j : Nat) (y : V), l[i]? = some b → (leaves (f b))[j]? = some y → ∃ v, w.cell? (a.add (i * sz + j)) = some v ∧ R (full w) y v := fun i b j y hi hj => by
        obtain ⟨cs', g1, g2⟩ := h3 i b hi
        rw [hsz] at g1
        obtain ⟨v, v1, v2⟩ := g2 j y hj
        obtain ⟨c1, c2⟩ := cells_at g1
        have hjs : j < sz := by rw [← he.len b]; exact (List.getElem?_eq_some_iff.1 hj).1
        refine ⟨v, ?_, v2⟩
        have := c2 j hjs
        rw [v1] at this
        have hadd : (a.add (i * sz)).add j = a.add (i * sz + j) := by
          unfold Addr.add
          by_cases h0 : i * sz = 0
          · simp [h0]
          · by_cases hj0 : j = 0
            · simp [h0, hj0]
            · simp [h0, hj0, Nat.add_assoc]
        rw [← hadd]; exact this
      have hlen : (l.map f).length = len := by simp [h1]
      rw [show (Value.slice (some a) len cap) = .slice (some a) (l.map f).length cap by rw [hlen]]
      refine .list sz (l.map f) (some a) cap a.block a.off (fun i j => (w.cell? (a.add (i * sz + j))).getD undef) (fun hne => ?_) (by omega) (fun y hy => ?_) (fun i y j hi hj => ?_) (fun i y j z hi hz => ?_)
      · cases hl : l with
        | nil => rw [hl] at hne; exact absurd rfl hne
        | cons b l' =>
          have hb0 : l[0]? = some b := by rw [hl]; rfl
          have hpos' : 0 < (leaves (f b)).length := by rw [he.len b]; exact hpos
          obtain ⟨v, v1, _⟩ := hcell 0 b 0 _ hb0 (List.getElem?_eq_getElem hpos')
          simp [Addr.add] at v1
          have := spot_none v1
          obtain ⟨ab, ao, asp⟩ := a
          simp at this
          subst this
          rfl
      · obtain ⟨b, _, rfl⟩ := List.mem_map.1 hy
        exact he.len b
      · rw [List.getElem?_map] at hi
        obtain ⟨b, hb, rfl⟩ := Option.map_eq_some_iff.1 hi
        have hjl : j < (leaves (f b)).length := by rw [he.len b]; exact hj
        obtain ⟨v, v1, _⟩ := hcell i b j _ hb (List.getElem?_eq_getElem hjl)
        show w.cell? ⟨a.block, a.off + i * sz + j, none⟩ = _
        rw [v1]
        have : a.add (i * sz + j) = ⟨a.block, a.off + i * sz + j, none⟩ ∨ i * sz + j = 0 := by
          unfold Addr.add
          by_cases h0 : i * sz + j = 0
          · exact .inr h0
          · left; rw [if_neg h0, Nat.add_assoc]
        rcases this with h | h
        · rw [← h, v1]; rfl
        · rw [h] at v1
          simp [Addr.add] at v1
          have hsp := spot_none v1
          have e0 : a.off + i * sz + j = a.off := by omega
          rw [e0]
          obtain ⟨ab, ao, asp⟩ := a
          simp at hsp
          subst hsp
          rw [v1]; rfl
      · rw [List.getElem?_map] at hi
        obtain ⟨b, hb, rfl⟩ := Option.map_eq_some_iff.1 hi
        obtain ⟨v, v1, v2⟩ := hcell i b j z hb hz
        rw [v1]
        exact v2⟩
end Go.Ab
