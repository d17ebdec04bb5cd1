/- The abstract state: values as trees, a small named memory, and how they stand for the machine's values and world. -/
import Derived.Calls
import Derived.Tactics
import Derived.Orders
import Derived.Laws.Sem
import Derived.Laws.World
import Derived.Laws.Cells
import Derived.Laws.Rows
import Derived.Laws.Append
import Derived.Below
import Derived.Laws.Entries
import Derived.Laws.Slices
import Derived.Laws.BytesArg
import Derived.Laws.Strings
import Derived.Laws.MakeOwn
import Derived.Lib.ConvBytes
import Derived.Laws.AppendOwn
set_option linter.unusedVariables false
set_option linter.unusedSimpArgs false
namespace Go.Ab
open Go.RowKit

/-- What a temporary holds. Slices of memory that nobody writes any more are lists ('list'; 'gl': with the right to append);
'msl': a part of a row of the memory; 'ptr': into it; 'sp': at an element that nobody writes any more. A name's generation tells what is stale. -/
inductive V where
  | any
  | int (k : IntKind) (n : Int)
  | bool (b : Bool)
  | str (s : List UInt8)
  | agg (xs : List V)
  | tup (xs : List V)
  | nilp
  | ptr (n g i j : Nat)
  | sp (ls : List V) (j : Nat)
  | list (sz : Nat) (xs : List V)
  | gl (n g sz : Nat) (xs : List V)
  | msl (n g off len : Nat)
  | esl
  | iface (t : TypeId) (x : V)
  | nili
  | fn (f : FuncId) (caps : List V)
  | lit (v : Value)
  deriving Inhabited

/-- A row of elements of so many cells; the room behind a list (none: it is an empty slice without room). -/
inductive Blk where
  | row (g sz : Nat) (es : List V)
  | tok (g sz len : Nat) (room : Bool)

def Blk.gen : Blk → Nat
  | .row g _ _ => g
  | .tok g _ _ _ => g

def leaves : V → List V
  | .agg xs => xs
  | x => [x]

structure Cx where
  S : Nat → Nat → Option Value
  ι : Nat → Option Nat
  cap : Nat → Nat
  mem : Nat → Option Blk

/-- The same, with no memory: what nobody writes. -/
def Cx.bare (c : Cx) : Cx := { c with mem := fun _ => none }

inductive R : Cx → V → Value → Prop
  | any {c : Cx} (v) : R c .any v
  | int {c : Cx} (k n) : R c (.int k n) (.int k n)
  | bool {c : Cx} (b) : R c (.bool b) (.bool b)
  | str {c : Cx} (s) : R c (.str s) (.string ⟨s.toArray⟩)
  | agg {c : Cx} (xs : List V) (vs : List Value) (hl : xs.length = vs.length) (hr : ∀ (i : Nat) (x : V) (v : Value), xs[i]? = some x → vs[i]? = some v → R c x v) : R c (.agg xs) (.agg vs.toArray)
  | tup {c : Cx} (xs : List V) (vs : List Value) (hl : xs.length = vs.length) (hr : ∀ (i : Nat) (x : V) (v : Value), xs[i]? = some x → vs[i]? = some v → R c x v) : R c (.tup xs) (.tuple vs.toArray)
  | nilp {c : Cx} : R c .nilp (.pointer none)
  | ptr {c : Cx} (n g i j sz es k) (hm : c.mem n = some (.row g sz es)) (hk : c.ι n = some k) : R c (.ptr n g i j) (.pointer (some ⟨k, i * sz + j, none⟩))
  | ptr0 {c : Cx} (n g i j b A) (hm : c.mem n = some b) (hg : g < b.gen) : R c (.ptr n g i j) (.pointer A)
  | sp {c : Cx} (ls : List V) (j b o : Nat) (f : Nat → Value) (hS : ∀ (i : Nat) (x : V), ls[i]? = some x → c.S b (o + i) = some (f i)) (hr : ∀ (i : Nat) (x : V), ls[i]? = some x → R c.bare x (f i)) : R c (.sp ls j) (.pointer (some ⟨b, o + j, none⟩))
  | list {c : Cx} (sz : Nat) (xs : List V) (A : Option Addr) (cap b o : Nat) (f : Nat → Nat → Value) (hA : xs ≠ [] → A = some ⟨b, o, none⟩) (hcap : xs.length ≤ cap) (hl : ∀ x ∈ xs, (leaves x).length = sz)
      (hS : ∀ (i : Nat) (x : V) (j : Nat), xs[i]? = some x → j < sz → c.S b (o + i * sz + j) = some (f i j)) (hr : ∀ (i : Nat) (x : V) (j : Nat) (y : V), xs[i]? = some x → (leaves x)[j]? = some y → R c.bare y (f i j)) : R c (.list sz xs) (.slice A xs.length cap)
  | gl {c : Cx} (n g sz : Nat) (xs : List V) (v : Value) (k : Nat) (h : R c (.list sz xs) v) (hm : c.mem n = some (.tok g sz xs.length true)) (hk : c.ι n = some k) (hv : v = .slice (some ⟨k, 0, none⟩) xs.length (c.cap n)) : R c (.gl n g sz xs) v
  | gl0 {c : Cx} (n g sz A) (hm : c.mem n = some (.tok g sz 0 false)) : R c (.gl n g sz []) (.slice A 0 0)
  | glx {c : Cx} (n g sz : Nat) (xs : List V) (v : Value) (b : Blk) (h : R c (.list sz xs) v) (hm : c.mem n = some b) (hg : g < b.gen) : R c (.gl n g sz xs) v
  | msl {c : Cx} (n g off len sz : Nat) (es : List V) (k : Nat) (A : Option Addr) (cap : Nat) (hm : c.mem n = some (.row g sz es)) (hk : c.ι n = some k) (h1 : off + len ≤ es.length) (h2 : es.length ≤ off + cap)
      (hA : 0 < cap → A = some ⟨k, off * sz, none⟩) : R c (.msl n g off len) (.slice A len cap)
  | msl0 {c : Cx} (n g off len b A cap) (hm : c.mem n = some b) (hg : g < b.gen) : R c (.msl n g off len) (.slice A len cap)
  | esl {c : Cx} (A) : R c .esl (.slice A 0 0)
  | iface {c : Cx} (t x v) (h : R c x v) : R c (.iface t x) (.iface t v)
  | nili {c : Cx} : R c .nili .nilIface
  | fn {c : Cx} (f : FuncId) (xs : List V) (vs : List Value) (hl : xs.length = vs.length) (hr : ∀ (i : Nat) (x : V) (v : Value), xs[i]? = some x → vs[i]? = some v → R c x v) : R c (.fn f xs) (.func (.func f) #[] vs.toArray)
  | lit {c : Cx} (v) : R c (.lit v) v

/-- A list of values for a list of abstract ones. -/
def Rs (c : Cx) (xs : List V) (vs : List Value) : Prop := xs.length = vs.length ∧ ∀ (i : Nat) (x : V) (v : Value), xs[i]? = some x → vs[i]? = some v → R c x v

/-- All names that a value refers to are such. -/
def V.ok (p : Nat → Bool) : V → Bool
  | .agg xs => okL p xs
  | .tup xs => okL p xs
  | .ptr n _ _ _ => p n
  | .gl n _ _ _ => p n
  | .msl n _ _ _ => p n
  | .iface _ x => x.ok p
  | .fn _ xs => okL p xs
  | _ => true
where okL (p : Nat → Bool) : List V → Bool
  | [] => true
  | x :: xs => x.ok p && okL p xs

theorem okL_iff (p : Nat → Bool) (xs : List V) : V.ok.okL p xs = true ↔ ∀ x ∈ xs, x.ok p = true := by
  induction xs with
  | nil => simp [V.ok.okL]
  | cons x xs ih => simp [V.ok.okL, ih]

theorem mem_of_at {α : Type} {xs : List α} {i : Nat} {x : α} (h : xs[i]? = some x) : x ∈ xs := List.mem_of_getElem? h

/-- The same but for what the elements are. -/
def Blk.like : Blk → Blk → Prop
  | .row g sz es, b' => ∃ es', b' = .row g sz es' ∧ es'.length = es.length
  | .tok g sz len room, b' => b' = .tok g sz len room
theorem Blk.like_gen {x y : Blk} (h : x.like y) : y.gen = x.gen := by
  cases x with
  | row g sz es => obtain ⟨es', rfl, _⟩ := h; rfl
  | tok g sz len room => cases h; rfl
theorem Blk.like_refl (x : Blk) : x.like x := by cases x <;> simp [Blk.like]

/-- A name's block is still there, or a later generation is. -/
def MonoAt (c c' : Cx) (n : Nat) : Prop :=
  match c.mem n with
  | none => True
  | some b => ∃ b', c'.mem n = some b' ∧ (b.gen < b'.gen ∨ c'.ι n = c.ι n ∧ c'.cap n = c.cap n ∧ b.like b')

theorem MonoAt.blk {c c' : Cx} {n : Nat} {b : Blk} (h : MonoAt c c' n) (hm : c.mem n = some b) : ∃ b', c'.mem n = some b' ∧ (b.gen < b'.gen ∨ c'.ι n = c.ι n ∧ c'.cap n = c.cap n ∧ b.like b') := by
  unfold MonoAt at h; simp only [hm] at h; exact h
theorem MonoAt.of {c c' : Cx} {n : Nat} (h : ∀ b, c.mem n = some b → ∃ b', c'.mem n = some b' ∧ (b.gen < b'.gen ∨ c'.ι n = c.ι n ∧ c'.cap n = c.cap n ∧ b.like b')) : MonoAt c c' n := by
  unfold MonoAt
  split
  · trivial
  · rename_i b hm; exact h b hm
theorem MonoAt.same {c c' : Cx} {n : Nat} (h : c'.mem n = c.mem n) (h2 : c'.ι n = c.ι n) (h3 : c'.cap n = c.cap n) : MonoAt c c' n :=
  .of fun b hm => ⟨b, by rw [h, hm], .inr ⟨h2, h3, b.like_refl⟩⟩
theorem MonoAt.trans {c c' c'' : Cx} {n : Nat} (h : MonoAt c c' n) (k : MonoAt c' c'' n) : MonoAt c c'' n := by
  refine .of fun b hm => ?_
  obtain ⟨b', e1, e2⟩ := h.blk hm
  obtain ⟨b'', f1, f2⟩ := k.blk e1
  refine ⟨b'', f1, ?_⟩
  rcases e2 with e2 | ⟨i1, i2, i3⟩
  · rcases f2 with f2 | ⟨_, _, j3⟩
    · exact .inl (by omega)
    · have := Blk.like_gen j3; exact .inl (by omega)
  · have e4 := Blk.like_gen i3
    rcases f2 with f2 | ⟨j1, j2, j3⟩
    · exact .inl (by omega)
    · refine .inr ⟨j1.trans i1, j2.trans i2, ?_⟩
      cases b with
      | row g sz es =>
        obtain ⟨es', rfl, h1⟩ := i3
        obtain ⟨es'', h2, h3⟩ := j3
        exact ⟨es'', h2, h3.trans h1⟩
      | tok g sz len room => cases i3; exact j3

theorem ok_true (x : V) : x.ok (fun _ => true) = true := by
  suffices h : ∀ (n : Nat) (x : V), SizeOf.sizeOf x ≤ n → x.ok (fun _ => true) = true from h _ x (Nat.le_refl _)
  intro n
  induction n with
  | zero => intro x h; cases x <;> simp at h
  | succ n ih =>
    intro x h
    cases x <;> simp only [V.ok]
    all_goals first
      | rfl
      | (rw [okL_iff]; intro y hy; apply ih; have := List.sizeOf_lt_of_mem hy; simp at h; omega)
      | (apply ih; simp at h; omega)

theorem R.transfer {c : Cx} {x : V} {v : Value} (h : R c x v) : ∀ {c' : Cx}, (∀ b o v, c.S b o = some v → c'.S b o = some v) → ∀ {p : Nat → Bool}, (∀ n, p n = true → MonoAt c c' n) → x.ok p = true → R c' x v := by
  induction h with
  | any v => intro c' hS p hm hx; exact .any v
  | int k n => intro c' hS p hm hx; exact .int k n
  | bool b => intro c' hS p hm hx; exact .bool b
  | str s => intro c' hS p hm hx; exact .str s
  | agg xs vs hl hr ih =>
    intro c' hS p hm hx
    simp only [V.ok] at hx
    exact .agg xs vs hl fun i x v h1 h2 => ih i x v h1 h2 hS hm ((okL_iff p xs).1 hx x (mem_of_at h1))
  | tup xs vs hl hr ih =>
    intro c' hS p hm hx
    simp only [V.ok] at hx
    exact .tup xs vs hl fun i x v h1 h2 => ih i x v h1 h2 hS hm ((okL_iff p xs).1 hx x (mem_of_at h1))
  | nilp => intro c' hS p hm hx; exact .nilp
  | ptr n g i j sz es k h1 hk =>
    intro c' hS p hm hx
    obtain ⟨b', e1, e2⟩ := (hm n (by simpa [V.ok] using hx)).blk h1
    rcases e2 with e2 | ⟨e2, _, es', rfl, _⟩
    · exact .ptr0 n g i j b' _ e1 e2
    · exact .ptr n g i j sz es' k e1 (e2.trans hk)
  | ptr0 n g i j b A h1 hg =>
    intro c' hS p hm hx
    obtain ⟨b', e1, e2⟩ := (hm n (by simpa [V.ok] using hx)).blk h1
    refine .ptr0 n g i j b' A e1 ?_
    rcases e2 with e2 | ⟨_, _, e2⟩
    · omega
    · have := Blk.like_gen e2; omega
  | sp ls j b o f hS' hr ih =>
    intro c' hS p hm hx
    exact .sp ls j b o f (fun i x h1 => hS _ _ _ (hS' i x h1)) fun i x h1 => ih i x h1 (c' := c'.bare) hS (p := fun _ => true) (fun n _ => by simp [MonoAt, Cx.bare]) (ok_true x)
  | list sz xs A cap b o f hA hcap hl hS' hr ih =>
    intro c' hS p hm hx
    exact .list sz xs A cap b o f hA hcap hl (fun i x j h1 h2 => hS _ _ _ (hS' i x j h1 h2)) fun i x j y h1 h2 => ih i x j y h1 h2 (c' := c'.bare) hS (p := fun _ => true) (fun n _ => by simp [MonoAt, Cx.bare]) (ok_true y)
  | gl n g sz xs v k h1 h2 hk hv ih =>
    intro c' hS p hm hx
    have h3 := ih hS (p := p) hm (by simp only [V.ok])
    obtain ⟨b', e1, e2⟩ := (hm n (by simpa [V.ok] using hx)).blk h2
    rcases e2 with e2 | ⟨e2, e3, rfl⟩
    · exact .glx n g sz xs v b' h3 e1 e2
    · exact .gl n g sz xs v k h3 e1 (e2.trans hk) (by rw [e3]; exact hv)
  | gl0 n g sz A h1 =>
    intro c' hS p hm hx
    obtain ⟨b', e1, e2⟩ := (hm n (by simpa [V.ok] using hx)).blk h1
    rcases e2 with e2 | ⟨_, _, rfl⟩
    · exact .glx n g sz [] _ b' (.list sz [] A 0 0 0 (fun _ _ => undef) (fun h => absurd rfl h) (Nat.le_refl _) (by simp) (by simp) (by simp)) e1 e2
    · exact .gl0 n g sz A e1
  | glx n g sz xs v b h1 h2 hg ih =>
    intro c' hS p hm hx
    obtain ⟨b', e1, e2⟩ := (hm n (by simpa [V.ok] using hx)).blk h2
    refine .glx n g sz xs v b' (ih hS (p := p) hm (by simp only [V.ok])) e1 ?_
    rcases e2 with e2 | ⟨_, _, e2⟩
    · omega
    · have := Blk.like_gen e2; omega
  | msl n g off len sz es k A cap h1 hk h2 h3 hA =>
    intro c' hS p hm hx
    obtain ⟨b', e1, e2⟩ := (hm n (by simpa [V.ok] using hx)).blk h1
    rcases e2 with e2 | ⟨e2, _, es', rfl, e3⟩
    · exact .msl0 n g off len b' _ _ e1 e2
    · exact .msl n g off len sz es' k A cap e1 (e2.trans hk) (by omega) (by omega) hA
  | msl0 n g off len b A cap h1 hg =>
    intro c' hS p hm hx
    obtain ⟨b', e1, e2⟩ := (hm n (by simpa [V.ok] using hx)).blk h1
    refine .msl0 n g off len b' A cap e1 ?_
    rcases e2 with e2 | ⟨_, _, e2⟩
    · omega
    · have := Blk.like_gen e2; omega
  | esl A => intro c' hS p hm hx; exact .esl A
  | iface t x v h ih => intro c' hS p hm hx; exact .iface t x v (ih hS hm (by simpa [V.ok] using hx))
  | nili => intro c' hS p hm hx; exact .nili
  | fn f xs vs hl hr ih =>
    intro c' hS p hm hx
    simp only [V.ok] at hx
    exact .fn f xs vs hl fun i x v h1 h2 => ih i x v h1 h2 hS hm ((okL_iff p xs).1 hx x (mem_of_at h1))
  | lit v => intro c' hS p hm hx; exact .lit v

theorem R.of_bare {c : Cx} {x : V} {v : Value} (h : R c.bare x v) : R c x v :=
  h.transfer (fun _ _ _ h => h) (p := fun _ => true) (fun n _ => by simp [MonoAt, Cx.bare]) (ok_true x)
/-- A value that refers to nothing of the memory. -/
abbrev V.pure (x : V) : Bool := x.ok fun _ => false
theorem R.to_bare {c : Cx} {x : V} {v : Value} (h : R c x v) (hx : x.pure = true) : R c.bare x v :=
  h.transfer (fun _ _ _ h => h) (p := fun _ => false) (fun n h => by cases h) hx
/-- With no memory nothing refers to it. -/
theorem R.bare_any {c c' : Cx} {x : V} {v : Value} (hS : ∀ b o v, c.S b o = some v → c'.S b o = some v) (h : R c.bare x v) : R c' x v :=
  h.transfer hS (p := fun _ => true) (fun n _ => by simp [MonoAt, Cx.bare]) (ok_true x)

/-- What nobody writes, of a value: no right to append, no place in the memory. -/
def strip : V → V
  | .agg xs => .agg (stripL xs)
  | .tup xs => .tup (stripL xs)
  | .ptr _ _ _ _ => .any
  | .gl _ _ sz xs => .list sz xs
  | .msl _ _ _ _ => .any
  | .iface t x => .iface t (strip x)
  | .fn f xs => .fn f (stripL xs)
  | x => x
where stripL : List V → List V
  | [] => []
  | x :: xs => strip x :: stripL xs
theorem stripL_eq (xs : List V) : strip.stripL xs = xs.map strip := by
  induction xs with
  | nil => rfl
  | cons x xs ih => simp [strip.stripL, ih]
theorem leaves_strip (x : V) : leaves (strip x) = (leaves x).map strip := by
  cases x <;> simp [strip, leaves, stripL_eq]
theorem R.strip {c : Cx} {x : V} {v : Value} (h : R c x v) : R c.bare (strip x) v := by
  induction h with
  | any v => exact .any v
  | int k n => exact .int k n
  | bool b => exact .bool b
  | str s => exact .str s
  | agg xs vs hl hr ih =>
    simp only [Go.Ab.strip, stripL_eq]
    exact .agg _ vs (by simpa using hl) fun i x v h1 h2 => by
      rw [List.getElem?_map] at h1
      obtain ⟨y, hy, rfl⟩ := Option.map_eq_some_iff.1 h1
      exact ih i y v hy h2
  | tup xs vs hl hr ih =>
    simp only [Go.Ab.strip, stripL_eq]
    exact .tup _ vs (by simpa using hl) fun i x v h1 h2 => by
      rw [List.getElem?_map] at h1
      obtain ⟨y, hy, rfl⟩ := Option.map_eq_some_iff.1 h1
      exact ih i y v hy h2
  | nilp => exact .nilp
  | ptr n g i j sz es k h1 hk => exact .any _
  | ptr0 n g i j b A h1 hg => exact .any _
  | sp ls j b o f hS hr ih => exact .sp ls j b o f hS hr
  | list sz xs A cap b o f hA hcap hl hS hr ih => exact .list sz xs A cap b o f hA hcap hl hS hr
  | gl n g sz xs v k h1 h2 hk hv ih => exact ih
  | gl0 n g sz A h1 => exact .list sz [] A 0 0 0 (fun _ _ => undef) (fun h => absurd rfl h) (Nat.le_refl _) (by simp) (by simp) (by simp)
  | glx n g sz xs v b h1 h2 hg ih => exact ih
  | msl n g off len sz es k A cap h1 hk h2 h3 hA => exact .any _
  | msl0 n g off len b A cap h1 hg => exact .any _
  | esl A => exact .esl A
  | iface t x v h ih => exact .iface t _ v ih
  | nili => exact .nili
  | fn f xs vs hl hr ih =>
    simp only [Go.Ab.strip, stripL_eq]
    exact .fn f _ vs (by simpa using hl) fun i x v h1 h2 => by
      rw [List.getElem?_map] at h1
      obtain ⟨y, hy, rfl⟩ := Option.map_eq_some_iff.1 h1
      exact ih i y v hy h2
  | lit v => exact .lit v

/-- What the environment, the cells that nobody writes, and the memory were, they still are, where anything is said of them. -/
structure Mono (c c' : Cx) : Prop where
  S : ∀ b o v, c.S b o = some v → c'.S b o = some v
  at_ : ∀ n, MonoAt c c' n
theorem Mono.Rb {c c' : Cx} (h : Mono c c') {x : V} {v : Value} (hr : Go.Ab.R c.bare x v) : Go.Ab.R c'.bare x v := hr.bare_any (c' := c'.bare) h.S
theorem Mono.R {c c' : Cx} (h : Mono c c') {x : V} {v : Value} (hr : R c x v) : R c' x v :=
  hr.transfer h.S (p := fun _ => true) (fun n _ => h.at_ n) (ok_true x)
theorem Mono.refl (c : Cx) : Mono c c := ⟨fun _ _ _ h => h, fun _ => .same rfl rfl rfl⟩

/-- The range of frozen cells lies behind all cells. -/
def Loose (cs : Array Value) (fr : Nat × Nat) : Prop := ∀ o, o < cs.size → ¬ (fr.1 ≤ o ∧ o < fr.2)

def BlkOk (c : Cx) (w : World) (n : Nat) : Blk → Prop
  | .row _ sz es => ∃ k cs T fr, c.ι n = some k ∧ w.heap[k]? = some (.cells cs T fr) ∧ es.length * sz ≤ cs.size ∧ Loose cs fr ∧ (∀ x ∈ es, (leaves x).length = sz) ∧
      (∀ (i : Nat) (x : V) (j : Nat) (y : V), es[i]? = some x → (leaves x)[j]? = some y → ∃ v, cs[i * sz + j]? = some v ∧ R c y v) ∧ ∀ o, c.S k o = none
  | .tok _ sz len true => ∃ k cs T fr, c.ι n = some k ∧ w.heap[k]? = some (.cells cs T fr) ∧ len ≤ c.cap n ∧ c.cap n * sz ≤ cs.size ∧ Loose cs fr ∧ ∀ o, len * sz ≤ o → c.S k o = none
  | .tok _ _ _ false => c.ι n = none

structure Sim (c : Cx) (w : World) : Prop where
  stab : ∀ b o v, c.S b o = some v → w.cell? ⟨b, o, none⟩ = some v
  ok : ∀ n blk, c.mem n = some blk → BlkOk c w n blk
  inj : ∀ n n' k, c.mem n ≠ none → c.mem n' ≠ none → c.ι n = some k → c.ι n' = some k → n = n'

/-- The block is one of the memory's. -/
def Owns (c : Cx) (k : Nat) : Prop := ∃ n, c.mem n ≠ none ∧ c.ι n = some k

/-- From one state on to a later one. -/
structure Ext (c : Cx) (w : World) (c' : Cx) (w' : World) : Prop where
  os : w'.os = w.os
  tape : w'.tape = w.tape
  output : w'.output = w.output
  size : w.heap.size ≤ w'.heap.size
  frame : ∀ k, k < w.heap.size → ¬ Owns c k → w'.heap[k]? = w.heap[k]?
  S : ∀ b o v, c.S b o = some v → c'.S b o = some v
  newS : ∀ b o v, c'.S b o = some v → c.S b o = some v ∨ w.heap.size ≤ b ∨ Owns c b
  own : ∀ k, Owns c' k → w.heap.size ≤ k ∨ Owns c k

theorem Ext.refl (c : Cx) (w : World) : Ext c w c w :=
  ⟨rfl, rfl, rfl, Nat.le_refl _, fun _ _ _ => rfl, fun _ _ _ h => h, fun _ _ _ h => .inl h, fun _ h => .inr h⟩
theorem Ext.trans {c c' c'' : Cx} {w w' w'' : World} (h : Ext c w c' w') (k : Ext c' w' c'' w'') : Ext c w c'' w'' where
  os := k.os.trans h.os
  tape := k.tape.trans h.tape
  output := k.output.trans h.output
  size := Nat.le_trans h.size k.size
  frame b hb ho := by
    have h1 := h.frame b hb ho
    rw [← h1]
    refine k.frame b (Nat.lt_of_lt_of_le hb h.size) fun h2 => ?_
    rcases h.own b h2 with h3 | h3
    · omega
    · exact ho h3
  S b o v hv := k.S b o v (h.S b o v hv)
  newS b o v hv := by
    rcases k.newS b o v hv with h1 | h1 | h1
    · exact h.newS b o v h1
    · exact .inr (.inl (Nat.le_trans h.size h1))
    · exact .inr (h.own b h1)
  own b hb := by
    rcases k.own b hb with h1 | h1
    · exact .inl (Nat.le_trans h.size h1)
    · exact h.own b h1

/-- Names from 1000 on came in with the call. -/
structure Keep (c0 c : Cx) : Prop where
  at_ : ∀ n, 1000 ≤ n → c.mem n ≠ none → MonoAt c0 c n ∧ c0.mem n ≠ none
theorem Keep.refl (c : Cx) : Keep c c := ⟨fun _ _ h => ⟨.same rfl rfl rfl, h⟩⟩
theorem Keep.step {c0 c c' : Cx} (h : Keep c0 c) (k : ∀ n, 1000 ≤ n → c'.mem n ≠ none → c.mem n ≠ none ∧ MonoAt c c' n) : Keep c0 c' :=
  ⟨fun n hn hm => ⟨(h.at_ n hn (k n hn hm).1).1.trans (k n hn hm).2, (h.at_ n hn (k n hn hm).1).2⟩⟩

/-- The state of a walk: what the temporaries hold, and the memory. -/
structure St where
  env : Nat → V
  mem : Nat → Option Blk

/-- Cells that are known from the start (library variables). -/
abbrev Given := List (Nat × Nat × Value)

structure Inv (G : Given) (N : Nat) (c0 : Cx) (w0 : World) (st : St) (c : Cx) (a : Act) (w : World) : Prop where
  mem : c.mem = st.mem
  sim : Sim c w
  env : ∀ t, R c (st.env t) (a.tmps.getD t undef)
  ext : Ext c0 w0 c w
  keep : Keep c0 c
  good : ∀ p ∈ G, c.S p.1 p.2.1 = some p.2.2
  size : a.tmps.size = N
  defers : a.defers = []

def mupd (m : Nat → Option Blk) (n : Nat) (b : Blk) : Nat → Option Blk := fun k => match Nat.beq k n with | true => some b | false => m k
theorem mupd_same (m : Nat → Option Blk) (n : Nat) (b : Blk) : mupd m n b n = some b := by simp [mupd]
theorem mupd_other (m : Nat → Option Blk) {n k : Nat} (b : Blk) (h : k ≠ n) : mupd m n b k = m k := by
  unfold mupd
  have : Nat.beq k n = false := by
    cases hb : Nat.beq k n with
    | false => rfl
    | true => exact absurd (Nat.eq_of_beq_eq_true hb) h
  rw [this]

/-- What an operation that may come at any time does: the memory gets at most one block more (its name is below 1000), nothing that there was turns. -/
structure QExt (c : Cx) (w : World) (c' : Cx) (w' : World) (N : Option (Nat × Blk)) : Prop where
  ext : Ext c w c' w'
  mono : Mono c c'
  sim : Sim c' w'
  mem : c'.mem = match N with | some (m, b) => mupd c.mem m b | none => c.mem

theorem QExt.refl {c : Cx} {w : World} (h : Sim c w) : QExt c w c w none :=
  ⟨.refl c w, .refl c, h, rfl⟩
end Go.Ab

/- What an operation that only computes or reads yields, on abstract values; and that the machine yields just that. -/
namespace Go.Ab

inductive TD where
  | unk
  | int (k : IntKind)
  | bool
  | str
  | slice (e : TypeId)
  | strct (fs : List (Nat × TypeId))
  | arr (n : Nat) (e : TypeId)
  | iface
  | ptr (e : TypeId)
  | func
  | tuple

structure TI where
  td : TD
  size : Nat
  bytes : Nat
  zero : V
instance : Inhabited TI := ⟨⟨.unk, 0, 0, .any⟩⟩

def constL : Value → V
  | .int k n => .int k n
  | .bool b => .bool b
  | .string s => .str s.data.toList
  | .slice none 0 0 => .esl
  | .pointer none => .nilp
  | .nilIface => .nili
  | v => .lit v
def constV : Value → V
  | .agg cs => .agg (cs.toList.map constL)
  | v => constL v

theorem str_back (s : ByteArray) : (⟨s.data.toList.toArray⟩ : ByteArray) = s := by cases s; simp

theorem constL_R (c : Cx) (v : Value) : R c (constL v) v := by
  unfold constL
  split
  · exact .int _ _
  · exact .bool _
  · rename_i s; have := R.str (c := c) s.data.toList; rwa [str_back] at this
  · exact .esl _
  · exact .nilp
  · exact .nili
  · exact .lit _
theorem constV_R (c : Cx) (v : Value) : R c (constV v) v := by
  cases v with
  | agg cs =>
    have := R.agg (c := c) (cs.toList.map constL) cs.toList (by simp) (fun i x v h1 h2 => by
      rw [List.getElem?_map, h2] at h1
      injection h1 with h1
      subst h1
      exact constL_R c v)
    simpa [constV] using this
  | _ => (simp only [constV]; exact constL_R c _)

def descTD : TypeDesc → TD
  | .int k => .int k
  | .bool => .bool
  | .string => .str
  | .slice e => .slice e
  | .struct fs => .strct (fs.toList.map fun f => (f.offset, f.type))
  | .array n e => .arr n e
  | .interface _ => .iface
  | .pointer e => .ptr e
  | .func _ _ _ => .func
  | .tuple _ => .tuple
  | _ => .unk

def TyOk (P : Program) (t : TypeId) (ti : TI) : Prop :=
  ti.td = .unk ∨ ((P.info? t).map (fun i => (i.size, i.bytes, i.zero.map constV)) = some (ti.size, ti.bytes, some ti.zero) ∧ (P.underlying t).map descTD = some ti.td)

section
variable {P : Program} {t : TypeId} {ti : TI}
theorem TyOk.info (h : TyOk P t ti) (hn : ti.td ≠ .unk) : ∃ i z, P.info? t = some i ∧ i.size = ti.size ∧ i.bytes = ti.bytes ∧ i.zero = some z ∧ constV z = ti.zero := by
  obtain ⟨h1, _⟩ := h.resolve_left hn
  obtain ⟨i, h2, h3⟩ := Option.map_eq_some_iff.1 h1
  simp only [Prod.mk.injEq] at h3
  obtain ⟨z, h4, h5⟩ := Option.map_eq_some_iff.1 h3.2.2
  exact ⟨i, z, h2, h3.1, h3.2.1, h4, h5⟩
theorem TyOk.desc (h : TyOk P t ti) (hn : ti.td ≠ .unk) : ∃ d, P.underlying t = some d ∧ descTD d = ti.td := Option.map_eq_some_iff.1 (h.resolve_left hn).2
theorem TyOk.int (h : TyOk P t ti) {k : IntKind} (ht : ti.td = .int k) : P.underlying t = some (.int k) := by
  obtain ⟨d, h1, h2⟩ := h.desc (by simp [ht]); rw [ht] at h2; cases d <;> simp [descTD] at h2; rw [h1, h2]
theorem TyOk.bool (h : TyOk P t ti) (ht : ti.td = .bool) : P.underlying t = some .bool := by
  obtain ⟨d, h1, h2⟩ := h.desc (by simp [ht]); rw [ht] at h2; cases d <;> simp [descTD] at h2; rw [h1]
theorem TyOk.str (h : TyOk P t ti) (ht : ti.td = .str) : P.underlying t = some .string := by
  obtain ⟨d, h1, h2⟩ := h.desc (by simp [ht]); rw [ht] at h2; cases d <;> simp [descTD] at h2; rw [h1]
theorem TyOk.slice (h : TyOk P t ti) {e : TypeId} (ht : ti.td = .slice e) : P.underlying t = some (.slice e) := by
  obtain ⟨d, h1, h2⟩ := h.desc (by simp [ht]); rw [ht] at h2; cases d <;> simp [descTD] at h2; rw [h1, h2]
theorem TyOk.strct (h : TyOk P t ti) {fs : List (Nat × TypeId)} (ht : ti.td = .strct fs) : ∃ F, P.underlying t = some (.struct F) ∧ F.toList.map (fun f => (f.offset, f.type)) = fs := by
  obtain ⟨d, h1, h2⟩ := h.desc (by simp [ht]); rw [ht] at h2; cases d <;> simp [descTD] at h2; exact ⟨_, h1, h2⟩
theorem TyOk.arr (h : TyOk P t ti) {n : Nat} {e : TypeId} (ht : ti.td = .arr n e) : P.underlying t = some (.array n e) := by
  obtain ⟨d, h1, h2⟩ := h.desc (by simp [ht]); rw [ht] at h2; cases d <;> simp [descTD] at h2; rw [h1, h2.1, h2.2]
theorem TyOk.iface (h : TyOk P t ti) (ht : ti.td = .iface) : ∃ ms, P.underlying t = some (.interface ms) := by
  obtain ⟨d, h1, h2⟩ := h.desc (by simp [ht]); rw [ht] at h2; cases d <;> simp [descTD] at h2; exact ⟨_, h1⟩
theorem TyOk.ptr (h : TyOk P t ti) {e : TypeId} (ht : ti.td = .ptr e) : P.underlying t = some (.pointer e) := by
  obtain ⟨d, h1, h2⟩ := h.desc (by simp [ht]); rw [ht] at h2; cases d <;> simp [descTD] at h2; rw [h1, h2]
theorem TyOk.run_size (h : TyOk P t ti) (hn : ti.td ≠ .unk) (w : World) : (Go.sizeOf t).run P w = .ok ti.size w := by
  obtain ⟨i, z, h1, h2, _⟩ := h.info hn
  simp [Go.sizeOf, typeInfo, h1, h2]
def TD.isUnk : TD → Bool
  | .unk => true
  | _ => false
theorem TD.isUnk_false {td : TD} (h : td.isUnk = false) : td ≠ .unk := by rintro rfl; simp [TD.isUnk] at h
def TD.isAgg : TD → Bool
  | .strct _ => true
  | .arr _ _ => true
  | _ => false
theorem TyOk.run_isAgg (h : TyOk P t ti) (hn : ti.td ≠ .unk) (w : World) : (Go.isAgg t).run P w = .ok ti.td.isAgg w := by
  obtain ⟨d, h1, h2⟩ := h.desc hn
  simp only [Go.isAgg, Sem.run_bind, run_underlying h1, Result.andThen_ok, ← h2]
  cases d <;> simp [descTD, TD.isAgg]
end

/-! ### Results -/
/-- How a name's block is seen: what nobody writes, a row with places that are not known, a list with room behind it. -/
inductive Md where
  | ls
  | wide
  | gl

inductive Res where
  | val (v : V)
  | obl (p : Prop) (v : V)
  | elt (xs : List V) (n : Int) (f : V → V)
  | byte (s : List UInt8) (n : Int)
  | bytes (xs : List V)
  | elo (xs : List V) (i : Nat) (f : V → Option V)
  | fail

def encB (b : UInt8) : V := .int .u8 (b.toNat : Int)

def Res.holds : Res → V → Prop
  | .val v, d => d = v
  | .obl p v, d => p ∧ d = v
  | .elt xs n f, d => 0 ≤ n ∧ ∃ e, xs[n.toNat]? = some e ∧ d = f e
  | .byte s n, d => 0 ≤ n ∧ ∃ b, s[n.toNat]? = some b ∧ d = encB b
  | .bytes xs, d => ∃ s : List UInt8, xs = s.map encB ∧ d = .str s
  | .elo xs i f, d => ∃ e, xs[i]? = some e ∧ f e = some d
  | .fail, _ => False
def Res.vc : Res → (V → Prop) → Prop
  | .val v, K => K v
  | .obl p v, K => p ∧ K v
  | .elt xs n f, K => 0 ≤ n ∧ ∃ e, xs[n.toNat]? = some e ∧ K (f e)
  | .byte s n, K => 0 ≤ n ∧ ∃ b, s[n.toNat]? = some b ∧ K (encB b)
  | .bytes xs, K => ∃ s : List UInt8, xs = s.map encB ∧ K (.str s)
  | .elo xs i f, K => ∃ e, xs[i]? = some e ∧ match f e with | some d => K d | none => False
  | .fail, _ => False
theorem Res.of_vc {r : Res} {K : V → Prop} (h : r.vc K) : ∃ d, r.holds d ∧ K d := by
  cases r with
  | val v => exact ⟨v, rfl, h⟩
  | obl p v => exact ⟨v, ⟨h.1, rfl⟩, h.2⟩
  | elt xs n f => obtain ⟨h0, e, h1, h2⟩ := h; exact ⟨_, ⟨h0, e, h1, rfl⟩, h2⟩
  | byte s n => obtain ⟨h0, e, h1, h2⟩ := h; exact ⟨_, ⟨h0, e, h1, rfl⟩, h2⟩
  | bytes xs => obtain ⟨s, h1, h2⟩ := h; exact ⟨_, ⟨s, h1, rfl⟩, h2⟩
  | elo xs i f =>
    obtain ⟨e, h1, h2⟩ := h
    split at h2
    · rename_i d hd; exact ⟨d, ⟨e, h1, hd⟩, h2⟩
    · exact h2.elim
  | fail => exact h.elim

/-! ### The evaluator -/
def force : V → V
  | .any => .any
  | .int k n => .int k n
  | .bool b => .bool b
  | .str s => .str s
  | .agg xs => .agg xs
  | .tup xs => .tup xs
  | .nilp => .nilp
  | .ptr n g i j => .ptr n g i j
  | .sp ls j => .sp ls j
  | .list sz xs => .list sz xs
  | .gl n g sz xs => .gl n g sz xs
  | .msl n g o l => .msl n g o l
  | .esl => .esl
  | .iface t x => .iface t x
  | .nili => .nili
  | .fn f c => .fn f c
  | .lit v => .lit v
theorem force_eq (v : V) : force v = v := by cases v <;> rfl

def nth {α : Type} : List α → Nat → Option α
  | [], _ => none
  | x :: xs, n => match Nat.beq n 0 with | true => some x | false => nth xs (n - 1)
theorem nth_eq {α : Type} (xs : List α) (n : Nat) : nth xs n = xs[n]? := by
  induction xs generalizing n with
  | nil => simp [nth]
  | cons x xs ih =>
    cases n with
    | zero => simp [nth]
    | succ n => simp [nth, ih, Nat.beq]

def evO (env : Nat → V) : Operand → V
  | .tmp t => env t
  | .const v => constV v
  | .global g => .lit (.pointer (some ⟨g, 0, none⟩))
  | .func f => .fn f []

def lenV : V → Option Nat
  | .list _ xs => some xs.length
  | .gl _ _ _ xs => some xs.length
  | .msl _ _ _ n => some n
  | .esl => some 0
  | .str l => some l.length
  | _ => none

def cut (ls : List V) (j n : Nat) : Option (List V) :=
  let r := (ls.drop j).take n
  match Nat.beq r.length n with
  | true => some r
  | false => none

def loadV (ti : TI) (ls : List V) (j : Nat) : Res :=
  match ti.td with
  | .unk => .fail
  | .strct _ => match cut ls j ti.size with | some r => .val (.agg r) | none => .fail
  | .arr _ _ => match cut ls j ti.size with | some r => .val (.agg r) | none => .fail
  | _ => match nth ls j with | some x => .val (force x) | none => .fail

def Res.opt : Res → Option V
  | .val v => some v
  | _ => none

/-- One cell. -/
def leafB : V → Bool
  | .agg _ => false
  | _ => true
theorem leafB_leaves {x : V} (h : leafB x = true) : leaves x = [x] := by cases x <;> first | rfl | cases h
def loadR (ty : TypeId → TI) (md : Nat → Md) (T : TypeId) (m : Nat → Option Blk) : V → Res
  | .ptr n g i j => match m n with
    | some (.row g' sz es) => match Nat.beq g g' with
      | true => match (ty T).td, Nat.beq sz 1 with
        | .arr len e, true => match Nat.beq i 0, Nat.beq j 0, (ty e).td.isAgg, Nat.beq (ty T).size len with
          | true, true, false, true => match md n with
            | .wide => .obl (es.length = len ∧ ∀ x ∈ es, leaves x = [x]) (.agg es)
            | _ => match Nat.beq es.length len, es.all leafB with
              | true, true => .val (.agg es)
              | _, _ => .fail
          | _, _, _, _ => .fail
        | _, _ => match md n with
          | .wide => .elo es i (fun e => (loadV (ty T) (leaves e) j).opt)
          | _ => match nth es i with
            | some e => loadV (ty T) (leaves e) j
            | none => .fail
      | false => .fail
    | _ => .fail
  | .sp ls j => loadV (ty T) ls j
  | _ => .fail

/-- A name's generation is the one that is there. -/
def live (m : Nat → Option Blk) (n g : Nat) : Bool := match m n with | some (.row g' _ _) => Nat.beq g g' | _ => false

def fieldAddrR (ty : TypeId → TI) (T : TypeId) (m : Nat → Option Blk) (x : V) (f : Nat) : Res :=
  match (ty T).td with
  | .strct fs => match nth fs f with
    | some (off, ft) => match (ty ft).td with
      | .unk => .fail
      | _ => match Nat.beq (ty ft).size 0, x with
        | false, .ptr n g i j => match live m n g with | true => .val (.ptr n g i (j + off)) | false => .fail
        | false, .sp ls j => .val (.sp ls (j + off))
        | _, _ => .fail
    | none => .fail
  | _ => .fail

def fieldR (ty : TypeId → TI) (T : TypeId) (x : V) (f : Nat) : Res :=
  match (ty T).td, x with
  | .strct fs, .agg ls => match nth fs f with
    | some (off, ft) => loadV (ty ft) ls off
    | none => .fail
  | _, _ => .fail

def indexAddrR (ty : TypeId → TI) (T : TypeId) (m : Nat → Option Blk) (x i : V) : Res :=
  match (ty T).td, i with
  | .slice e, .int _ k => match (ty e).td with
    | .unk => .fail
    | _ => match x with
      | .list sz xs => match Nat.beq sz (ty e).size with
        | true => .elt xs k (fun y => .sp (leaves y) 0)
        | false => .fail
      | .gl _ _ sz xs => match Nat.beq sz (ty e).size with
        | true => .elt xs k (fun y => .sp (leaves y) 0)
        | false => .fail
      | .msl n g off len => match m n with
        | some (.row g' sz _) => match Nat.beq g g', Nat.beq sz (ty e).size with
          | true, true => .obl (0 ≤ k ∧ k < len) (.ptr n g (off + k.toNat) 0)
          | _, _ => .fail
        | _ => .fail
      | _ => .fail
  | .arr len e, .int _ k => match (ty e).td with
    | .unk => .fail
    | _ => match x with
      | .ptr n g a j => match m n with
        | some (.row g' sz _) => match Nat.beq g g', Nat.beq sz 1, Nat.beq (ty e).size 1 with
          | true, true, true => .obl (0 ≤ k ∧ k < len) (.ptr n g (a + k.toNat) j)
          | true, _, _ => .obl (0 ≤ k ∧ k < len) (.ptr n g a (j + k.toNat * (ty e).size))
          | _, _, _ => .fail
        | _ => .fail
      | .sp ls j => .obl (0 ≤ k ∧ k < len) (.sp ls (j + k.toNat * (ty e).size))
      | _ => .fail
  | _, _ => .fail

def indexR (ty : TypeId → TI) (T : TypeId) (x i : V) : Res :=
  match (ty T).td, x, i with
  | .str, .str s, .int _ k => .byte s k
  | .arr len e, .agg ls, .int _ k => match (ty e).td.isAgg, Nat.beq (ty e).size 1, Nat.beq ls.length len with
    | false, true, true => match (ty e).td with
      | .unk => .fail
      | _ => .elt ls k force
    | _, _, _ => .fail
  | _, _, _ => .fail

def bitsV (op : BinOp) (k : IntKind) (x y : Int) : Int :=
  let a := BitVec.ofInt k.bits x
  let b := BitVec.ofInt k.bits y
  match op with
  | .and => k.wrap (a &&& b).toNat
  | .or => k.wrap (a ||| b).toNat
  | .xor => k.wrap (a ^^^ b).toNat
  | _ => k.wrap (a &&& ~~~b).toNat

def shlV (k : IntKind) (x y : Int) : Int := k.wrap (x * 2 ^ (min y.toNat k.bits))
def shrV (k : IntKind) (x y : Int) : Int := x.fdiv (2 ^ (min y.toNat k.bits))

def intR (op : BinOp) (k : IntKind) (m n : Int) : Res :=
  match op with
  | .add => .val (.int k (k.wrap (m + n)))
  | .sub => .val (.int k (k.wrap (m - n)))
  | .mul => .val (.int k (k.wrap (m * n)))
  | .lss => .val (.bool (decide (m < n)))
  | .gtr => .val (.bool (decide (m > n)))
  | .leq => .val (.bool (decide (m ≤ n)))
  | .geq => .val (.bool (decide (m ≥ n)))
  | .eql => .val (.bool (m == n))
  | .neq => .val (.bool (m != n))
  | .quo => .obl (n ≠ 0) (.int k (k.wrap (m.tdiv n)))
  | .rem => .obl (n ≠ 0) (.int k (m.tmod n))
  | .and => .val (.int k (bitsV .and k m n))
  | .or => .val (.int k (bitsV .or k m n))
  | .xor => .val (.int k (bitsV .xor k m n))
  | .andNot => .val (.int k (bitsV .andNot k m n))
  | _ => .fail

def strR (op : BinOp) (a b : List UInt8) : Res :=
  match op with
  | .add => .obl (a.length + b.length ≤ 9223372036854775807) (.str (a ++ b))
  | .eql => .val (.bool (a == b))
  | .neq => .val (.bool (!(a == b)))
  | .lss => .val (.bool (Op.bytesLess a b))
  | .leq => .val (.bool (Op.bytesLess a b || a == b))
  | .gtr => .val (.bool (!(Op.bytesLess a b || a == b)))
  | .geq => .val (.bool (!Op.bytesLess a b))
  | _ => .fail

/-- Comparisons that are no sums: of bools, with nil. -/
def eqlV (m : Nat → Option Blk) (td : TD) (x y : V) : Option Bool :=
  match td, x, y with
  | .bool, .bool a, .bool b => some (a == b)
  | .ptr _, .nilp, .nilp => some true
  | .ptr _, .ptr n g _ _, .nilp => match live m n g with | true => some false | false => none
  | .ptr _, .sp _ _, .nilp => some false
  | .iface, .iface _ _, .nili => some false
  | _, _, _ => none

def isNilConst : Operand → Bool
  | .const .nilIface => true
  | _ => false

def binR (ty : TypeId → TI) (m : Nat → Option Blk) (ρ : Operand → V) (op : BinOp) (T : TypeId) (x y : Operand) : Res :=
  match ρ x, ρ y with
  | .int k m, .int k' n => match op with
    | .shl => .obl (0 ≤ n) (.int k (shlV k m n))
    | .shr => .obl (0 ≤ n) (.int k (shrV k m n))
    | _ => match decide (k = k') with | true => intR op k m n | false => .fail
  | .str a, .str b => strR op a b
  | .nili, .nili => match (ty T).td, isNilConst y, op with
    | .iface, true, .eql => .val (.bool true)
    | .iface, true, .neq => .val (.bool false)
    | _, _, _ => .fail
  | a, b => match op, eqlV m (ty T).td a b with
    | .eql, some r => .val (.bool r)
    | .neq, some r => .val (.bool (!r))
    | _, _ => .fail

def unR (op : UnOp) (x : V) : Res :=
  match op, x with
  | .not, .bool b => .val (.bool (!b))
  | .neg, .int k n => .val (.int k (k.wrap (0 - n)))
  | .xor, .int k n => .val (.int k (bitsV .xor k (if k.signed then -1 else k.max) n))
  | _, _ => .fail

def convR (ty : TypeId → TI) (m : Nat → Option Blk) (src dst : TypeId) (x : V) : Res :=
  match (ty src).td, (ty dst).td, x with
  | .unk, _, _ => .fail
  | _, .int k, .int _ n => .val (.int k (k.wrap n))
  | _, .str, .str s => .val (.str s)
  | .slice e, .str, x => match (ty e).td, Nat.beq (ty e).size 1 with
    | .int .u8, true => match x with
      | .list _ xs => .bytes xs
      | .gl _ _ _ xs => .bytes xs
      | .msl n g off len => match m n with
        | some (.row g' sz es) => match Nat.beq g g', Nat.beq sz 1 with
          | true, true => .bytes ((es.drop off).take len)
          | _, _ => .fail
        | _ => .fail
      | .esl => .val (.str [])
      | _ => .fail
    | _, _ => .fail
  | _, _, _ => .fail

/-- A value of so many cells as it has leaves. -/
def plainV : V → Bool
  | .any => false
  | .lit _ => false
  | .tup _ => false
  | _ => true
def putL (zl : List V) (off : Nat) (xs : List V) : List V := zl.take off ++ xs ++ zl.drop (off + xs.length)
def fillV (place : Nat → Option (Nat × Nat)) (zl : List V) : List (Nat × V) → Option (List V)
  | [] => some zl
  | (i, v) :: rest => match place i with
    | none => none
    | some (off, size) => match plainV v, Nat.beq (leaves v).length size, Nat.ble (off + size) zl.length with
      | true, true, true => fillV place (putL zl off (leaves v)) rest
      | _, _, _ => none

def buildR (ty : TypeId → TI) (ρ : Operand → V) (T : TypeId) (parts : List (Nat × Operand)) : Res :=
  match (ty T).td with
  | .strct fs => match fillV (fun i => (nth fs i).map fun p => (p.1, (ty p.2).size)) (leaves (ty T).zero) (parts.map fun p => (p.1, ρ p.2)), fs.all (fun p => !(ty p.2).td.isUnk) with
    | some r, true => .val (.agg r)
    | _, _ => .fail
  | .arr _ e => match fillV (fun i => some (i * (ty e).size, (ty e).size)) (leaves (ty T).zero) (parts.map fun p => (p.1, ρ p.2)), (ty e).td.isUnk with
    | some r, false => .val (.agg r)
    | _, _ => .fail
  | _ => .fail

def boundV (o : Option V) (d : Int) : Option Int := match o with | none => some d | some (.int _ n) => some n | some _ => none
def sliceR (ty : TypeId → TI) (T : TypeId) (m : Nat → Option Blk) (x : V) (lo hi mx : Option V) : Res :=
  match mx with
  | some (.int _ 0) => match (ty T).td, lo, hi with
    | .slice e, none, some (.int _ 0) => match (ty e).td, x with
      | .unk, _ => .fail
      | _, .list _ _ => .val .esl
      | _, .gl _ _ _ _ => .val .esl
      | _, .esl => .val .esl
      | _, _ => .fail
    | _, _, _ => .fail
  | some _ => .fail
  | none => match (ty T).td, x with
    | .str, .str s => match boundV lo 0, boundV hi s.length with
      | some l, some h => .obl (0 ≤ l ∧ l ≤ h ∧ h ≤ s.length) (.str ((s.drop l.toNat).take (h.toNat - l.toNat)))
      | _, _ => .fail
    | .slice e, x => match (ty e).td.isUnk with
      | true => .fail
      | false => match x with
        | .list sz xs => match Nat.beq sz (ty e).size, boundV lo 0, boundV hi xs.length with
          | true, some l, some h => .obl (0 ≤ l ∧ l ≤ h ∧ h ≤ xs.length) (.list sz ((xs.drop l.toNat).take (h.toNat - l.toNat)))
          | _, _, _ => .fail
        | .gl _ _ sz xs => match Nat.beq sz (ty e).size, boundV lo 0, boundV hi xs.length with
          | true, some l, some h => .obl (0 ≤ l ∧ l ≤ h ∧ h ≤ xs.length) (.list sz ((xs.drop l.toNat).take (h.toNat - l.toNat)))
          | _, _, _ => .fail
        | .msl n g off len => match m n with
          | some (.row g' sz _) => match Nat.beq g g', Nat.beq sz (ty e).size, boundV lo 0, boundV hi len with
            | true, true, some l, some h => .obl (0 ≤ l ∧ l ≤ h ∧ h ≤ len) (.msl n g (off + l.toNat) (h.toNat - l.toNat))
            | _, _, _, _ => .fail
          | _ => .fail
        | .esl => match boundV lo 0, boundV hi 0 with
          | some l, some h => .obl (l = 0 ∧ h = 0) .esl
          | _, _ => .fail
        | _ => .fail
    | _, _ => .fail

def minmax (mx : Bool) : V → List V → Res
  | x, [] => .val x
  | .int k x, .int k' y :: rest => match decide (k = k') with
    | true => minmax mx (.int k (match mx with | true => (if y > x then y else x) | false => (if y < x then y else x))) rest
    | false => .fail
  | _, _ => .fail

def builtinR (ty : TypeId → TI) (ρ : Operand → V) (b : Builtin) (args : List Operand) (ats : List TypeId) : Res :=
  match b, args, ats with
  | .len, [x], [t] => match (ty t).td, lenV (ρ x) with
    | .str, some n => (match ρ x with | .str _ => .val (.int .i64 n) | _ => .fail)
    | .slice _, some n => (match ρ x with | .str _ => .fail | _ => .val (.int .i64 n))
    | .arr n _, _ => .val (.int .i64 n)
    | _, _ => .fail
  | .max, x :: rest, _ => minmax true (ρ x) (rest.map ρ)
  | .min, x :: rest, _ => minmax false (ρ x) (rest.map ρ)
  | _, _, _ => .fail

def evQ (ty : TypeId → TI) (md : Nat → Md) (ρ : Operand → V) (m : Nat → Option Blk) : Op → Res
  | .move x => .val (force (ρ x))
  | .assign x => .val (force (ρ x))
  | .pick c a b => match ρ c with
    | .bool t => .val (match t with | true => force (ρ a) | false => force (ρ b))
    | _ => .fail
  | .load T x => loadR ty md T m (ρ x)
  | .nilCheck x => match ρ x with
    | .ptr n g i j => match live m n g with | true => .val (.ptr n g i j) | false => .fail
    | .sp ls j => .val (.sp ls j)
    | _ => .fail
  | .fieldAddr T x f => fieldAddrR ty T m (ρ x) f
  | .field T x f => fieldR ty T (ρ x) f
  | .indexAddr T x i => indexAddrR ty T m (ρ x) (ρ i)
  | .index T x i => indexR ty T (ρ x) (ρ i)
  | .binOp op T x y _ => binR ty m ρ op T x y
  | .unOp op _ x => unR op (ρ x)
  | .convert src dst x => convR ty m src dst (ρ x)
  | .makeInterface T x => match (ty T).td with
    | .unk => .fail
    | .iface => .fail
    | _ => .val (.iface T (force (ρ x)))
  | .makeFunc (.func f) first captured => match first.toList with
    | [] => .val (.fn f (captured.toList.map ρ))
    | _ => .fail
  | .extract x i => match ρ x with
    | .tup xs => match nth xs i with | some v => .val (force v) | none => .fail
    | _ => .fail
  | .build T parts => buildR ty ρ T parts.toList
  | .slice T x lo hi mx => sliceR ty T m (ρ x) (lo.map ρ) (hi.map ρ) (mx.map ρ)
  | .call ⟨.builtin b, args, ats⟩ => builtinR ty ρ b args.toList ats.toList
  | _ => .fail

end Go.Ab

/- The machine yields what the evaluator says: operations that leave the world as it is. -/
namespace Go.Ab

theorem list_choice {α β : Type} {Q : Nat → α → β → Prop} : ∀ (xs : List α), (∀ i x, xs[i]? = some x → ∃ v, Q i x v) → ∃ vs : List β, vs.length = xs.length ∧ ∀ i x v, xs[i]? = some x → vs[i]? = some v → Q i x v
  | [], _ => ⟨[], rfl, fun i x v h => by simp at h⟩
  | x :: xs, h => by
    obtain ⟨v, hv⟩ := h 0 x rfl
    obtain ⟨vs, hl, hvs⟩ := list_choice (Q := fun i => Q (i + 1)) xs (fun i x hx => h (i + 1) x (by simpa using hx))
    refine ⟨v :: vs, by simp [hl], fun i y u h1 h2 => ?_⟩
    cases i with
    | zero => simp at h1 h2; subst h1; subst h2; exact hv
    | succ i => exact hvs i y u (by simpa using h1) (by simpa using h2)

theorem add_none (b o n : Nat) : (⟨b, o, none⟩ : Addr).add n = ⟨b, o + n, none⟩ := by unfold Addr.add; split <;> simp_all

theorem run_loadVar_leaf {P : Program} {t : TypeId} {ti : TI} (h : TyOk P t ti) (hn : ti.td ≠ .unk) (ha : ti.td.isAgg = false) {w : World} {a : Addr} {v : Value} (hc : w.cell? a = some v) :
    (loadVar t a).run P w = .ok v w := by
  simp [loadVar, h.run_isAgg hn, ha, run_load, hc]
theorem run_loadVar_agg {P : Program} {t : TypeId} {ti : TI} (h : TyOk P t ti) (hn : ti.td ≠ .unk) (ha : ti.td.isAgg = true) {w : World} {a : Addr} {vs : List Value} (hl : vs.length = ti.size)
    (hc : ∀ j v, vs[j]? = some v → w.cell? (a.add j) = some v) : (loadVar t a).run P w = .ok (.agg vs.toArray) w := by
  have := run_loadCells_list (P := P) w a vs hc
  rw [hl] at this
  simp [loadVar, h.run_isAgg hn, ha, h.run_size hn, this]

theorem cut_some {ls r : List V} {j n : Nat} (h : cut ls j n = some r) : r = (ls.drop j).take n ∧ r.length = n := by
  unfold cut at h
  simp only at h
  split at h
  · rename_i hb
    injection h with h
    exact ⟨h.symm, by rw [← h]; exact Nat.eq_of_beq_eq_true hb⟩
  · cases h

theorem loadV_sound {P : Program} {T : TypeId} {ti : TI} (hty : TyOk P T ti) {c : Cx} {w : World} {ls : List V} {b o j : Nat} {d : V}
    (hc : ∀ i x, ls[i]? = some x → ∃ v, w.cell? ⟨b, o + i, none⟩ = some v ∧ R c x v) (hd : (loadV ti ls j).holds d) : ∃ v, (loadVar T ⟨b, o + j, none⟩).run P w = .ok v w ∧ R c d v := by
  have agg : ∀ r, ti.td ≠ .unk → ti.td.isAgg = true → cut ls j ti.size = some r → d = .agg r → ∃ v, (loadVar T ⟨b, o + j, none⟩).run P w = .ok v w ∧ R c d v := by
    intro r hn ha hr hd
    obtain ⟨h1, h2⟩ := cut_some hr
    obtain ⟨vs, hl, hvs⟩ := list_choice (Q := fun i x v => w.cell? ⟨b, o + j + i, none⟩ = some v ∧ R c x v) r (fun i x hx => by
      rw [h1, List.getElem?_take] at hx
      split at hx
      · rw [List.getElem?_drop] at hx
        have := hc (j + i) x hx
        rwa [← Nat.add_assoc] at this
      · cases hx)
    refine ⟨_, run_loadVar_agg hty hn ha (hl.trans h2) (fun i v hv => ?_), ?_⟩
    · have hi : i < r.length := by rw [← hl]; exact (List.getElem?_eq_some_iff.1 hv).1
      have := (hvs i r[i] v (List.getElem?_eq_getElem hi) hv).1
      rwa [add_none]
    · rw [hd]; exact .agg r vs hl.symm fun i x v h1 h2 => (hvs i x v h1 h2).2
  have leaf : ti.td ≠ .unk → ti.td.isAgg = false → (match nth ls j with | some x => Res.val (force x) | none => .fail).holds d → ∃ v, (loadVar T ⟨b, o + j, none⟩).run P w = .ok v w ∧ R c d v := by
    intro hn ha hd
    rw [nth_eq] at hd
    cases hx : ls[j]? with
    | none => rw [hx] at hd; exact hd.elim
    | some x =>
      rw [hx] at hd
      obtain ⟨v, h1, h2⟩ := hc j x hx
      refine ⟨v, run_loadVar_leaf hty hn ha h1, ?_⟩
      simp only [Res.holds, force_eq] at hd
      rw [hd]; exact h2
  unfold loadV at hd
  cases htd : ti.td with
  | unk => rw [htd] at hd; exact hd.elim
  | strct fs =>
    rw [htd] at hd
    cases hr : cut ls j ti.size with
    | none => simp only [hr] at hd; exact hd.elim
    | some r => simp only [hr] at hd; exact agg r (by simp [htd]) (by simp [htd, TD.isAgg]) hr hd
  | arr n e =>
    rw [htd] at hd
    cases hr : cut ls j ti.size with
    | none => simp only [hr] at hd; exact hd.elim
    | some r => simp only [hr] at hd; exact agg r (by simp [htd]) (by simp [htd, TD.isAgg]) hr hd
  | _ => rw [htd] at hd; exact leaf (by simp [htd]) (by simp [htd, TD.isAgg]) hd

/-- The cells of a row's element. -/
theorem row_cell {c : Cx} {w : World} (hs : Sim c w) {n g sz : Nat} {es : List V} (hm : c.mem n = some (.row g sz es)) {k : Nat} (hk : c.ι n = some k) {i : Nat} {e : V} (he : es[i]? = some e) :
    ∀ (j : Nat) (x : V), (leaves e)[j]? = some x → ∃ v, w.cell? ⟨k, i * sz + j, none⟩ = some v ∧ R c x v := by
  intro j x hx
  obtain ⟨k', cs, T, fr, h1, h2, _, _, _, h3, _⟩ := hs.ok n _ hm
  rw [hk] at h1
  injection h1 with h1
  subst h1
  obtain ⟨v, h4, h5⟩ := h3 i e j x he hx
  exact ⟨v, by simp [World.cell?, h2, h4], h5⟩

theorem run_loadAt {P : Program} {T : TypeId} {b o : Nat} {w : World} : (Instr.loadAt T (.pointer (some ⟨b, o, none⟩))).run P w = (loadVar T ⟨b, o, none⟩).run P w := by
  simp [Instr.loadAt, Instr.sureAddr]

/-- A pointer of the generation that is there. -/
theorem ptr_at {c : Cx} {n g i j : Nat} {v : Value} (h : R c (.ptr n g i j) v) {g' sz : Nat} {es : List V} (hm : c.mem n = some (.row g' sz es)) (hg : Nat.beq g g' = true) :
    ∃ k, c.ι n = some k ∧ v = .pointer (some ⟨k, i * sz + j, none⟩) := by
  have hg := Nat.eq_of_beq_eq_true hg
  subst hg
  cases h with
  | ptr _ _ _ _ sz' es' k h1 hk =>
    rw [hm] at h1
    injection h1 with h1
    injection h1 with _ h1 _
    subst h1
    exact ⟨k, hk, rfl⟩
  | ptr0 _ _ _ _ b _ h1 hg =>
    rw [hm] at h1
    injection h1 with h1
    subst h1
    simp [Blk.gen] at hg

theorem msl_at {c : Cx} {n g off len : Nat} {v : Value} (h : R c (.msl n g off len) v) {g' sz : Nat} {es : List V} (hm : c.mem n = some (.row g' sz es)) (hg : Nat.beq g g' = true) :
    ∃ k A cap, c.ι n = some k ∧ v = .slice A len cap ∧ off + len ≤ es.length ∧ es.length ≤ off + cap ∧ (0 < cap → A = some ⟨k, off * sz, none⟩) := by
  have hg := Nat.eq_of_beq_eq_true hg
  subst hg
  cases h with
  | msl _ _ _ _ sz' es' k A cap h1 hk h2 h3 hA =>
    rw [hm] at h1
    injection h1 with h1
    injection h1 with _ h1 h1'
    subst h1 h1'
    exact ⟨k, A, cap, hk, rfl, h2, h3, hA⟩
  | msl0 _ _ _ _ b _ _ h1 hg =>
    rw [hm] at h1
    injection h1 with h1
    subst h1
    simp [Blk.gen] at hg

theorem gl_list {c : Cx} {n g sz : Nat} {xs : List V} {v : Value} (h : R c (.gl n g sz xs) v) : R c (.list sz xs) v := by
  cases h with
  | gl _ _ _ _ _ _ h => exact h
  | gl0 _ _ _ A h => exact .list sz [] A 0 0 0 (fun _ _ => undef) (fun h => absurd rfl h) (Nat.le_refl _) (by simp) (by simp) (by simp)
  | glx _ _ _ _ _ _ h => exact h

theorem live_at {c : Cx} {m : Nat → Option Blk} (hm : ∀ n b, m n = some b → c.mem n = some b) {n g i j : Nat} (hl : live m n g = true) {v : Value} (h : R c (.ptr n g i j) v) :
    ∃ sz es k, c.mem n = some (.row g sz es) ∧ c.ι n = some k ∧ v = .pointer (some ⟨k, i * sz + j, none⟩) := by
  unfold live at hl
  split at hl
  · rename_i g' sz es hmn
    obtain ⟨k, hk, hv⟩ := ptr_at h (hm _ _ hmn) hl
    have hg := Nat.eq_of_beq_eq_true hl
    subst hg
    exact ⟨sz, es, k, hm _ _ hmn, hk, hv⟩
  · cases hl

theorem loadR_sound {P : Program} {ty : TypeId → TI} (hty : ∀ t, TyOk P t (ty t)) {md : Nat → Md} {T : TypeId} {c : Cx} {w : World} {m : Nat → Option Blk} (hm : ∀ n b, m n = some b → c.mem n = some b) (hs : Sim c w)
    {x : V} {v : Value} (hx : R c x v) {d : V} (hd : (loadR ty md T m x).holds d) : ∃ u, (Instr.loadAt T v).run P w = .ok u w ∧ R c d u := by
  unfold loadR at hd
  split at hd
  · rename_i n g i j
    split at hd
    case h_2 => exact hd.elim
    rename_i g' sz es hmn
    have hm1 := hm _ _ hmn
    split at hd
    case h_2 => exact hd.elim
    rename_i hg
    obtain ⟨k, hk, rfl⟩ := ptr_at hx hm1 hg
    rw [run_loadAt]
    split at hd
    · rename_i len e htd hsz
      have hsz := Nat.eq_of_beq_eq_true hsz
      subst hsz
      split at hd
      · rename_i b1 b2 b4 b5
        have b1 := Nat.eq_of_beq_eq_true b1
        have b2 := Nat.eq_of_beq_eq_true b2
        have b5 := Nat.eq_of_beq_eq_true b5
        subst b1 b2
        obtain ⟨⟨b3, hp⟩, rfl⟩ : (es.length = len ∧ ∀ x ∈ es, leaves x = [x]) ∧ d = .agg es := by
          split at hd
          · exact hd
          · split at hd
            case h_2 => exact hd.elim
            rename_i q1 q2
            exact ⟨⟨Nat.eq_of_beq_eq_true q1, fun x hx => leafB_leaves (List.all_eq_true.1 q2 x hx)⟩, hd⟩
        obtain ⟨vs, hl, hvs⟩ := list_choice (Q := fun i x v => w.cell? ⟨k, i, none⟩ = some v ∧ R c x v) es (fun i x hx => by
          have := row_cell hs hm1 hk hx 0 x (by rw [hp x (mem_of_at hx)]; rfl)
          simpa using this)
        refine ⟨_, run_loadVar_agg (hty T) (by simp [htd]) (by simp [htd, TD.isAgg]) (vs := vs) (by omega) (fun i v hv => ?_), .agg es vs hl.symm fun i x v h1 h2 => (hvs i x v h1 h2).2⟩
        have hi : i < es.length := by rw [← hl]; exact (List.getElem?_eq_some_iff.1 hv).1
        have := (hvs i es[i] v (List.getElem?_eq_getElem hi) hv).1
        rw [add_none]
        simpa using this
      · exact hd.elim
    · split at hd
      · obtain ⟨e, he, hf⟩ := hd
        refine loadV_sound (hty T) (row_cell hs hm1 hk he) (d := d) (j := j) ?_
        have hf : (loadV (ty T) (leaves e) j).opt = some d := hf
        generalize loadV (ty T) (leaves e) j = r at hf
        cases r with
        | val v => simp only [Res.opt] at hf; injection hf with hf; exact hf.symm
        | _ => cases hf
      · rw [nth_eq] at hd
        cases he : es[i]? with
        | none => rw [he] at hd; exact hd.elim
        | some e =>
          rw [he] at hd
          exact loadV_sound (hty T) (row_cell hs hm1 hk he) hd
  · cases hx with
    | sp _ _ b o f hS hr =>
      rw [run_loadAt]
      exact loadV_sound (hty T) (fun i y hy => ⟨f i, hs.stab _ _ _ (hS i y hy), (hr i y hy).of_bare⟩) hd
  · exact hd.elim

theorem fieldPlace_run {P : Program} {b o : Nat} {f : Field} {w : World} {n : Nat} (h : (Go.sizeOf f.type).run P w = .ok n w) (hn : n ≠ 0) :
    (fieldPlace ⟨b, o, none⟩ f).run P w = .ok ⟨b, o + f.offset, none⟩ w := by
  simp [fieldPlace, h, hn, add_none]

theorem field_at {F : Array Field} {fs : List (Nat × TypeId)} (h : F.toList.map (fun f => (f.offset, f.type)) = fs) {i : Nat} {p : Nat × TypeId} (hp : fs[i]? = some p) :
    ∃ f, F[i]? = some f ∧ f.offset = p.1 ∧ f.type = p.2 := by
  subst h
  rw [List.getElem?_map] at hp
  obtain ⟨f, h1, h2⟩ := Option.map_eq_some_iff.1 hp
  refine ⟨f, by simpa using h1, ?_, ?_⟩ <;> rw [← h2]

theorem fieldAddrR_sound {P : Program} {ty : TypeId → TI} (hty : ∀ t, TyOk P t (ty t)) {T : TypeId} {c : Cx} {w : World} {m : Nat → Option Blk} (hm : ∀ n b, m n = some b → c.mem n = some b) {x : V} {v : Value} (hx : R c x v) {f : Nat} {d : V}
    (hd : (fieldAddrR ty T m x f).holds d) : ∃ u, (Instr.fieldAt T v f).run P w = .ok u w ∧ R c d u := by
  unfold fieldAddrR at hd
  split at hd
  case h_2 => exact hd.elim
  rename_i fs htd
  rw [nth_eq] at hd
  split at hd
  case h_2 => exact hd.elim
  rename_i off ft hft
  obtain ⟨F, hF, hfs⟩ := (hty T).strct htd
  obtain ⟨fd, h1, h2, h3⟩ := field_at hfs hft
  simp only at h2 h3
  have go : ∀ b o : Nat, (ty ft).td ≠ .unk → Nat.beq (ty ft).size 0 = false → (Instr.fieldAt T (.pointer (some ⟨b, o, none⟩)) f).run P w = .ok (.pointer (some ⟨b, o + off, none⟩)) w := by
    intro b o hn h0
    have h4 : (ty ft).size ≠ 0 := fun e => by rw [e] at h0; cases h0
    have h5 := fieldPlace_run (b := b) (o := o) (f := fd) (by rw [h3]; exact (hty ft).run_size (w := w) hn) h4
    simp [Instr.fieldAt, run_underlying hF, h1, Instr.sureAddr, h5, h2]
  split at hd
  · exact hd.elim
  rename_i hn
  split at hd
  · rename_i n g i j h0
    split at hd
    case h_2 => exact hd.elim
    rename_i hl
    simp only [Res.holds] at hd
    subst hd
    obtain ⟨sz, es, k, h1, hk, rfl⟩ := live_at hm hl hx
    refine ⟨_, go _ _ (fun e => hn e) h0, ?_⟩
    rw [Nat.add_assoc]
    exact .ptr n g i (j + off) sz es k h1 hk
  · rename_i ls j h0
    cases hx with
    | sp _ _ b o g hS hr =>
      simp only [Res.holds] at hd
      subst hd
      refine ⟨_, go _ _ (fun e => hn e) h0, ?_⟩
      rw [Nat.add_assoc]
      exact .sp ls (j + off) b o g hS hr
  · exact hd.elim

/-- A part of a struct by value. -/
theorem part_sound {P : Program} {t : TypeId} {ti : TI} (hty : TyOk P t ti) {c : Cx} {w : World} {ls : List V} {vs : List Value} (hl : ls.length = vs.length)
    (hr : ∀ (i : Nat) (x : V) (v : Value), ls[i]? = some x → vs[i]? = some v → R c x v) {off : Nat} {d : V} (hd : (loadV ti ls off).holds d) :
    ∃ u, (part t vs.toArray off).run P w = .ok u w ∧ R c d u := by
  have agg : ∀ r, ti.td ≠ .unk → ti.td.isAgg = true → cut ls off ti.size = some r → d = .agg r → ∃ u, (part t vs.toArray off).run P w = .ok u w ∧ R c d u := by
    intro r hn ha hr' hd
    obtain ⟨h1, h2⟩ := cut_some hr'
    refine ⟨.agg ((vs.drop off).take ti.size).toArray, ?_, ?_⟩
    · simp only [part, Sem.run_bind, hty.run_isAgg hn, ha, Result.andThen_ok, if_true, hty.run_size hn, Sem.run_pure]
      congr 2
      simp [List.extract_toArray, List.take_drop]
      try rw [Nat.add_comm]
    · rw [hd, h1]
      refine .agg _ _ (by simp [hl]) fun i x v h3 h4 => ?_
      rw [List.getElem?_take] at h3 h4
      split at h3
      · rename_i hi
        rw [if_pos hi] at h4
        rw [List.getElem?_drop] at h3 h4
        exact hr _ x v h3 h4
      · cases h3
  have leaf : ti.td ≠ .unk → ti.td.isAgg = false → (match nth ls off with | some x => Res.val (force x) | none => .fail).holds d → ∃ u, (part t vs.toArray off).run P w = .ok u w ∧ R c d u := by
    intro hn ha hd
    rw [nth_eq] at hd
    cases hx : ls[off]? with
    | none => rw [hx] at hd; exact hd.elim
    | some x =>
      rw [hx] at hd
      simp only [Res.holds, force_eq] at hd
      have hlt : off < vs.length := by rw [← hl]; exact (List.getElem?_eq_some_iff.1 hx).1
      refine ⟨vs[off], ?_, by rw [hd]; exact hr off x _ hx (List.getElem?_eq_getElem hlt)⟩
      simp [part, hty.run_isAgg hn, ha, hlt]
  unfold loadV at hd
  cases htd : ti.td with
  | unk => rw [htd] at hd; exact hd.elim
  | strct fs =>
    rw [htd] at hd
    cases hr' : cut ls off ti.size with
    | none => simp only [hr'] at hd; exact hd.elim
    | some r => simp only [hr'] at hd; exact agg r (by simp [htd]) (by simp [htd, TD.isAgg]) hr' hd
  | arr n e =>
    rw [htd] at hd
    cases hr' : cut ls off ti.size with
    | none => simp only [hr'] at hd; exact hd.elim
    | some r => simp only [hr'] at hd; exact agg r (by simp [htd]) (by simp [htd, TD.isAgg]) hr' hd
  | _ => rw [htd] at hd; exact leaf (by simp [htd]) (by simp [htd, TD.isAgg]) hd

theorem fieldR_sound {P : Program} {ty : TypeId → TI} (hty : ∀ t, TyOk P t (ty t)) {T : TypeId} {c : Cx} {w : World} {x : V} {v : Value} (hx : R c x v) {f : Nat} {d : V}
    (hd : (fieldR ty T x f).holds d) : ∃ u, (Instr.field T v f).run P w = .ok u w ∧ R c d u := by
  unfold fieldR at hd
  split at hd
  case h_2 => exact hd.elim
  rename_i fs ls htd
  rw [nth_eq] at hd
  split at hd
  case h_2 => exact hd.elim
  rename_i off ft hft
  obtain ⟨F, hF, hfs⟩ := (hty T).strct htd
  obtain ⟨fd, h1, h2, h3⟩ := field_at hfs hft
  simp only at h2 h3
  cases hx with
  | agg _ vs hl hr =>
    obtain ⟨u, h4, h5⟩ := part_sound (P := P) (hty ft) (w := w) hl hr hd
    refine ⟨u, ?_, h5⟩
    simp [Instr.field, run_underlying hF, h1, asAgg, h2, h3, h4]

theorem indexAt_slice {P : Program} {T e : TypeId} {ti : TI} (hT : P.underlying T = some (.slice e)) (he : TyOk P e ti) (hn : ti.td ≠ .unk) {k : IntKind} {i : Int} {b o len cap : Nat} (h0 : 0 ≤ i) (h1 : i < len) (w : World) :
    (Instr.indexAt T (.slice (some ⟨b, o, none⟩) len cap) (.int k i)).run P w = .ok (.pointer (some ⟨b, o + i.toNat * ti.size, none⟩)) w := by
  simp [Instr.indexAt, asIntOf, run_underlying hT, h0, h1, he.run_size hn, add_none]

theorem indexAt_arr {P : Program} {T e : TypeId} {ti : TI} {len : Nat} (hT : P.underlying T = some (.array len e)) (he : TyOk P e ti) (hn : ti.td ≠ .unk) {k : IntKind} {i : Int} {b o : Nat} (h0 : 0 ≤ i) (h1 : i < len) (w : World) :
    (Instr.indexAt T (.pointer (some ⟨b, o, none⟩)) (.int k i)).run P w = .ok (.pointer (some ⟨b, o + i.toNat * ti.size, none⟩)) w := by
  simp [Instr.indexAt, asIntOf, run_underlying hT, h0, h1, he.run_size hn, add_none, Instr.sureAddr]

theorem list_at {c : Cx} {sz : Nat} {xs : List V} {v : Value} (h : R c (.list sz xs) v) {k : Nat} {y : V} (hy : xs[k]? = some y) :
    ∃ b o cap, v = .slice (some ⟨b, o, none⟩) xs.length cap ∧ R c (.sp (leaves y) 0) (.pointer (some ⟨b, o + k * sz + 0, none⟩)) := by
  cases h with
  | list _ _ A cap b o f hA hcap hl hS hr =>
    have hne : xs ≠ [] := fun e => by rw [e] at hy; simp at hy
    refine ⟨b, o, cap, by rw [hA hne], ?_⟩
    have hlen := hl y (mem_of_at hy)
    refine .sp (leaves y) 0 b (o + k * sz) (fun i => f k i) (fun i x hx => hS k y i hy ?_) fun i x hx => hr k y i x hy hx
    rw [← hlen]; exact (List.getElem?_eq_some_iff.1 hx).1

theorem indexAddrR_sound {P : Program} {ty : TypeId → TI} (hty : ∀ t, TyOk P t (ty t)) {T : TypeId} {c : Cx} {w : World} {m : Nat → Option Blk} (hm : ∀ n b, m n = some b → c.mem n = some b)
    {x i : V} {v u : Value} (hx : R c x v) (hi : R c i u) {d : V} (hd : (indexAddrR ty T m x i).holds d) : ∃ r, (Instr.indexAt T v u).run P w = .ok r w ∧ R c d r := by
  unfold indexAddrR at hd
  split at hd
  · rename_i e ik k htd
    have hT := (hty T).slice htd
    cases hi
    have lst : ∀ sz xs, (ty e).td ≠ .unk → Nat.beq sz (ty e).size = true → R c (.list sz xs) v → 0 ≤ k → (∃ y, xs[k.toNat]? = some y ∧ d = .sp (leaves y) 0) → ∃ r, (Instr.indexAt T v (.int ik k)).run P w = .ok r w ∧ R c d r := by
      intro sz xs hn hsz hr0 h0 ⟨y, hy, hd⟩
      have hsz := Nat.eq_of_beq_eq_true hsz
      obtain ⟨b, o, cap, rfl, hr⟩ := list_at hr0 hy
      have hlt := (List.getElem?_eq_some_iff.1 hy).1
      refine ⟨_, indexAt_slice hT (hty e) hn h0 (by omega) w, ?_⟩
      rw [hd, ← hsz]
      exact hr
    split at hd
    · exact hd.elim
    rename_i hn
    split at hd
    · split at hd
      · rename_i hsz; exact lst _ _ (fun h => hn h) hsz hx hd.1 hd.2
      · exact hd.elim
    · split at hd
      · rename_i hsz
        exact lst _ _ (fun h => hn h) hsz (gl_list hx) hd.1 hd.2
      · exact hd.elim
    · rename_i n g off len
      split at hd
      · rename_i g' sz es hmn
        split at hd
        · rename_i hg hsz
          have hsz := Nat.eq_of_beq_eq_true hsz
          obtain ⟨⟨h0, h1⟩, rfl⟩ := hd
          obtain ⟨kk, A, cap, hk, rfl, g1, g2, hA⟩ := msl_at hx (hm _ _ hmn) hg
          have hg := Nat.eq_of_beq_eq_true hg
          subst hg
          rw [hA (by omega)]
          refine ⟨_, indexAt_slice hT (hty e) (fun h => hn h) h0 h1 w, ?_⟩
          have : off * sz + k.toNat * (ty e).size = (off + k.toNat) * sz + 0 := by rw [← hsz, Nat.add_mul]; rfl
          rw [this]
          exact .ptr n _ _ 0 sz es kk (hm _ _ hmn) hk
        · exact hd.elim
      · exact hd.elim
    · exact hd.elim
  · rename_i len e ik k htd
    have hT := (hty T).arr htd
    cases hi
    split at hd
    · exact hd.elim
    rename_i hn
    split at hd
    · rename_i n g a j
      split at hd
      · rename_i g' sz es hmn
        split at hd
        · rename_i hg b1 b2
          have b1 := Nat.eq_of_beq_eq_true b1
          have b2 := Nat.eq_of_beq_eq_true b2
          obtain ⟨⟨h0, h1⟩, rfl⟩ := hd
          obtain ⟨kk, hk, rfl⟩ := ptr_at hx (hm _ _ hmn) hg
          have hg := Nat.eq_of_beq_eq_true hg
          subst hg
          refine ⟨_, indexAt_arr hT (hty e) (fun h => hn h) h0 h1 w, ?_⟩
          have : a * sz + j + k.toNat * (ty e).size = (a + k.toNat) * sz + j := by rw [b1, b2]; omega
          rw [this]
          exact .ptr n _ _ j sz es kk (hm _ _ hmn) hk
        · rename_i hg _
          obtain ⟨⟨h0, h1⟩, rfl⟩ := hd
          obtain ⟨kk, hk, rfl⟩ := ptr_at hx (hm _ _ hmn) hg
          have hg := Nat.eq_of_beq_eq_true hg
          subst hg
          refine ⟨_, indexAt_arr hT (hty e) (fun h => hn h) h0 h1 w, ?_⟩
          rw [Nat.add_assoc]
          exact .ptr n _ a _ sz es kk (hm _ _ hmn) hk
        · exact hd.elim
      · exact hd.elim
    · rename_i ls j
      cases hx with
      | sp _ _ b o f hS hr =>
        obtain ⟨⟨h0, h1⟩, rfl⟩ := hd
        refine ⟨_, indexAt_arr hT (hty e) (fun h => hn h) h0 h1 w, ?_⟩
        rw [Nat.add_assoc]
        exact .sp ls _ b o f hS hr
    · exact hd.elim
  · exact hd.elim

theorem indexR_sound {P : Program} {ty : TypeId → TI} (hty : ∀ t, TyOk P t (ty t)) {T : TypeId} {c : Cx} {w : World} 
    {x i : V} {v u : Value} (hx : R c x v) (hi : R c i u) {d : V} (hd : (indexR ty T x i).holds d) : ∃ r, (Instr.index T v u).run P w = .ok r w ∧ R c d r := by
  unfold indexR at hd
  split at hd
  · rename_i s ik k htd
    have hT := (hty T).str htd
    cases hi
    cases hx
    obtain ⟨h0, b, hb, rfl⟩ := hd
    refine ⟨_, ?_, .int _ _⟩
    have hlt := (List.getElem?_eq_some_iff.1 hb).1
    have hget : (⟨s.toArray⟩ : ByteArray)[k.toNat]? = some b := by
      have hlt2 : k.toNat < (⟨s.toArray⟩ : ByteArray).size := by simpa [ByteArray.size] using hlt
      rw [getElem?_pos (⟨s.toArray⟩ : ByteArray) k.toNat hlt2]
      congr 1
      have := (List.getElem?_eq_some_iff.1 hb).2
      simpa [ByteArray.getElem_eq_getElem_data] using this
    simp [Instr.index, asIntOf, run_underlying hT, h0, hget]
  · rename_i len e ls ik k htd
    have hT := (hty T).arr htd
    cases hi
    split at hd
    · rename_i ha hsz hlen
      have hsz := Nat.eq_of_beq_eq_true hsz
      have hlen := Nat.eq_of_beq_eq_true hlen
      split at hd
      · exact hd.elim
      rename_i hn
      cases hx with
      | agg _ vs hl hr =>
        obtain ⟨h0, y, hy, rfl⟩ := hd
        have hlt := (List.getElem?_eq_some_iff.1 hy).1
        have hlt' : k.toNat < vs.length := by omega
        refine ⟨vs[k.toNat], ?_, by rw [force_eq]; exact hr _ _ _ hy (List.getElem?_eq_getElem hlt')⟩
        have hk : k < len := by omega
        simp [Instr.index, asIntOf, run_underlying hT, h0, hk, (hty e).run_size (fun h => hn h), hsz, part, (hty e).run_isAgg (fun h => hn h), ha, hlt']
    · exact hd.elim
  · exact hd.elim
end Go.Ab

/- The machine yields what the evaluator says: sums, comparisons, conversions, literals, parts of slices; all together. -/
namespace Go.Ab

theorem intR_sound {P : Program} {op : BinOp} {k : IntKind} {m n : Int} {T : TypeId} {c : Cx} {w : World} (h1 : op ≠ .shl) (h2 : op ≠ .shr) {d : V} (hd : (intR op k m n).holds d) :
    ∃ u, (binOp op T (.int k m) (.int k n)).run P w = .ok u w ∧ R c d u := by
  cases op <;> simp only [intR, Res.holds] at hd
  case add => subst hd; exact ⟨_, by simp [binOp, Op.intArith], .int _ _⟩
  case sub => subst hd; exact ⟨_, by simp [binOp, Op.intArith], .int _ _⟩
  case mul => subst hd; exact ⟨_, by simp [binOp, Op.intArith], .int _ _⟩
  case quo => obtain ⟨h, rfl⟩ := hd; exact ⟨_, by simp [binOp, Op.intDiv, h], .int _ _⟩
  case rem => obtain ⟨h, rfl⟩ := hd; exact ⟨_, by simp [binOp, Op.intDiv, h], .int _ _⟩
  case and => subst hd; exact ⟨_, by simp [binOp, Op.intBits, bitsV], .int _ _⟩
  case or => subst hd; exact ⟨_, by simp [binOp, Op.intBits, bitsV], .int _ _⟩
  case xor => subst hd; exact ⟨_, by simp [binOp, Op.intBits, bitsV], .int _ _⟩
  case andNot => subst hd; exact ⟨_, by simp [binOp, Op.intBits, bitsV], .int _ _⟩
  case eql => subst hd; exact ⟨_, by simp [binOp, Op.intCmp], .bool _⟩
  case neq => subst hd; exact ⟨_, by simp [binOp, Op.intCmp], .bool _⟩
  case lss => subst hd; exact ⟨_, by simp [binOp, Op.intCmp], .bool _⟩
  case leq => subst hd; exact ⟨_, by simp [binOp, Op.intCmp], .bool _⟩
  case gtr => subst hd; exact ⟨_, by simp [binOp, Op.intCmp], .bool _⟩
  case geq => subst hd; exact ⟨_, by simp [binOp, Op.intCmp], .bool _⟩

theorem toList_mk (s : List UInt8) : (⟨s.toArray⟩ : ByteArray).toList = s := by rw [ByteArray.toList_eq]
theorem size_mk (s : List UInt8) : (⟨s.toArray⟩ : ByteArray).size = s.length := rfl
theorem append_mk (a b : List UInt8) : (⟨a.toArray⟩ : ByteArray) ++ ⟨b.toArray⟩ = ⟨(a ++ b).toArray⟩ := by
  apply ByteArray.ext
  simp

theorem strR_sound {P : Program} {op : BinOp} {a b : List UInt8} {T : TypeId} {c : Cx} {w : World} {d : V} (hd : (strR op a b).holds d) :
    ∃ u, (binOp op T (.string ⟨a.toArray⟩) (.string ⟨b.toArray⟩)).run P w = .ok u w ∧ R c d u := by
  have hb : ∀ op, binOp op T (.string ⟨a.toArray⟩) (.string ⟨b.toArray⟩) = Op.stringOp op ⟨a.toArray⟩ ⟨b.toArray⟩ := by intro op; cases op <;> rfl
  rw [hb]
  cases op <;> simp only [strR, Res.holds] at hd
  case add =>
    obtain ⟨h, rfl⟩ := hd
    refine ⟨.string ⟨(a ++ b).toArray⟩, ?_, .str _⟩
    have hno : ¬ (((a.length + b.length : Nat) : Int) > IntKind.i64.max) := by simp [IntKind.max, IntKind.signed, IntKind.bits]; omega
    simp only [Op.stringOp, size_mk, if_neg hno, append_mk, Sem.run_pure]
  case eql => subst hd; exact ⟨_, by simp only [Op.stringOp, toList_mk, Sem.run_pure], .bool _⟩
  case neq => subst hd; exact ⟨_, by simp only [Op.stringOp, toList_mk, Sem.run_pure], .bool _⟩
  case lss => subst hd; exact ⟨_, by simp only [Op.stringOp, toList_mk, Sem.run_pure], .bool _⟩
  case leq => subst hd; exact ⟨_, by simp only [Op.stringOp, toList_mk, Sem.run_pure], .bool _⟩
  case gtr => subst hd; exact ⟨_, by simp only [Op.stringOp, toList_mk, Sem.run_pure], .bool _⟩
  case geq => subst hd; exact ⟨_, by simp only [Op.stringOp, toList_mk, Sem.run_pure], .bool _⟩

theorem eqlV_sound {P : Program} {ty : TypeId → TI} (hty : ∀ t, TyOk P t (ty t)) {T : TypeId} {c : Cx} {w : World} {m : Nat → Option Blk} (hm : ∀ n b, m n = some b → c.mem n = some b) {x y : V} {v u : Value} (hx : R c x v) (hy : R c y u) {r : Bool} (h : eqlV m (ty T).td x y = some r) :
    (Op.equal T v u).run P w = .ok r w := by
  show (Op.equalIn (9999 + 1) T v u).run P w = .ok r w
  generalize 9999 = D
  unfold eqlV at h
  split at h
  case h_6 => cases h
  · rename_i a b htd
    injection h with h
    cases hx; cases hy
    simp [Op.equalIn, run_underlying ((hty T).bool htd), h]
  · rename_i e htd
    injection h with h
    cases hx; cases hy
    simp [Op.equalIn, run_underlying ((hty T).ptr htd), ← h]
  · rename_i e n g _ _ htd
    split at h
    case h_2 => cases h
    rename_i hl
    injection h with h
    obtain ⟨sz, es, k, _, _, rfl⟩ := live_at hm hl hx
    cases hy
    simp [Op.equalIn, run_underlying ((hty T).ptr htd), ← h]
  · rename_i e _ _ htd
    injection h with h
    cases hx; cases hy
    simp [Op.equalIn, run_underlying ((hty T).ptr htd), ← h]
  · rename_i t x' htd
    injection h with h
    obtain ⟨ms, hms⟩ := (hty T).iface htd
    cases hx; cases hy
    simp [Op.equalIn, run_underlying hms, ← h]

theorem eqGuard_plain {P : Program} {w : World} {op : BinOp} {t : TypeId} {x y : Operand} {a b : Value} (h1 : a ≠ .nilIface ∨ b ≠ .nilIface) (h2 : ∀ cs, a ≠ .agg cs) : (eqGuard op t x y a b).run P w = .ok () w := by
  unfold eqGuard
  cases a <;> cases b <;> first
    | (exfalso; simp at h1; done)
    | (exfalso; exact h2 _ rfl)
    | (cases op <;> rfl)
theorem eqGuard_other {P : Program} {w : World} {op : BinOp} {t : TypeId} {x y : Operand} {a b : Value} (h : op ≠ .eql) (h' : op ≠ .neq) : (eqGuard op t x y a b).run P w = .ok () w := by
  unfold eqGuard
  cases op <;> first | exact absurd rfl h | exact absurd rfl h' | rfl

theorem binR_sound {P : Program} {ty : TypeId → TI} (hty : ∀ t, TyOk P t (ty t)) {ρ : Operand → V} {e : Operand → Value} {op : BinOp} {T : TypeId} {x y : Operand} {c : Cx} {w : World} {m : Nat → Option Blk} (hm : ∀ n b, m n = some b → c.mem n = some b)
    (hx : R c (ρ x) (e x)) (hy : R c (ρ y) (e y)) {d : V} (hd : (binR ty m ρ op T x y).holds d) :
    ∃ u, ((do eqGuard op T x y (e x) (e y); binOp op T (e x) (e y)) : Sem Value).run P w = .ok u w ∧ R c d u := by
  unfold binR at hd
  generalize hxv : ρ x = vx at *
  generalize hyv : ρ y = vy at *
  generalize hex : e x = a at *
  generalize hey : e y = b at *
  have hgoal : (eqGuard op T x y a b).run P w = .ok () w → (∃ u, (binOp op T a b).run P w = .ok u w ∧ R c d u) →
      ∃ u, ((do eqGuard op T x y a b; binOp op T a b) : Sem Value).run P w = .ok u w ∧ R c d u := by
    rintro hg ⟨u, h1, h2⟩
    exact ⟨u, by simp [hg, h1], h2⟩
  split at hd
  · rename_i k m k' n
    cases hx
    cases hy
    refine hgoal (eqGuard_plain (.inl (by simp)) (by simp)) ?_
    split at hd
    · obtain ⟨h0, rfl⟩ := hd
      exact ⟨_, by simp [binOp, Op.shift, shlV, show ¬ n < 0 by omega], .int _ _⟩
    · obtain ⟨h0, rfl⟩ := hd
      exact ⟨_, by simp [binOp, Op.shift, shrV, show ¬ n < 0 by omega], .int _ _⟩
    · split at hd
      · rename_i n1 n2 _ hk
        have hk := of_decide_eq_true hk
        subst hk
        exact intR_sound (fun h => n1 h) (fun h => n2 h) hd
      · exact hd.elim
  · rename_i s1 s2
    cases hx
    cases hy
    exact hgoal (eqGuard_plain (.inl (by simp)) (by simp)) (strR_sound hd)
  · cases hx
    cases hy
    split at hd
    · rename_i htd hk
      simp only [Res.holds] at hd
      subst hd
      obtain ⟨ms, hms⟩ := (hty T).iface htd
      refine hgoal ?_ ⟨.bool true, ?_, .bool _⟩
      · cases y <;> simp [isNilConst] at hk
        simp [eqGuard]
      · show (do pure (Value.bool (← Op.equalIn (9999 + 1) T .nilIface .nilIface)) : Sem Value).run P w = _
        generalize 9999 = D
        simp [Op.equalIn, run_underlying hms]
    · rename_i htd hk
      simp only [Res.holds] at hd
      subst hd
      obtain ⟨ms, hms⟩ := (hty T).iface htd
      refine hgoal ?_ ⟨.bool false, ?_, .bool _⟩
      · cases y <;> simp [isNilConst] at hk
        simp [eqGuard]
      · show (do pure (Value.bool (!(← Op.equalIn (9999 + 1) T .nilIface .nilIface))) : Sem Value).run P w = _
        generalize 9999 = D
        simp [Op.equalIn, run_underlying hms]
    · exact hd.elim
  · have key : ∀ r, eqlV m (ty T).td vx vy = some r → op = .eql ∨ op = .neq → d = .bool (if op = .eql then r else !r) → ∃ u, ((do eqGuard op T x y a b; binOp op T a b) : Sem Value).run P w = .ok u w ∧ R c d u := by
      intro r h hop hd
      have hrun := eqlV_sound hty (w := w) hm hx hy h
      have hab : (a ≠ .nilIface ∨ b ≠ .nilIface) ∧ (∀ cs, a ≠ .agg cs) ∧ (∀ k q, a ≠ .int k q) ∧ (∀ q, a ≠ .string q) ∧ (∀ k q, a ≠ .float k q) ∧ (∀ k q z, a ≠ .complex k q z) := by
        unfold eqlV at h
        split at h
        · cases hx; simp
        · cases hx; simp
        · split at h
          · rename_i hl; obtain ⟨sz, es, k, _, _, rfl⟩ := live_at hm hl hx; simp
          · cases h
        · cases hx; simp
        · cases hx; simp
        · cases h
      have hg : (eqGuard op T x y a b).run P w = .ok () w := eqGuard_plain hab.1 hab.2.1
      refine hgoal hg ⟨_, ?_, by rw [hd]; exact .bool _⟩
      have hb : binOp .eql T a b = (do pure (.bool (← Op.equal T a b))) ∧ binOp .neq T a b = (do pure (.bool (!(← Op.equal T a b)))) := by
        obtain ⟨_, _, h3, h4, h5, h6⟩ := hab
        cases a <;> first
          | exact absurd rfl (h3 _ _)
          | exact absurd rfl (h4 _)
          | exact absurd rfl (h5 _ _)
          | exact absurd rfl (h6 _ _ _)
          | (cases b <;> exact ⟨rfl, rfl⟩)
      rcases hop with rfl | rfl
      · rw [hb.1]; simp [hrun]
      · rw [hb.2]; simp [hrun]
    split at hd
    · rename_i r h
      exact key r h (.inl rfl) hd
    · rename_i r h
      exact key r h (.inr rfl) hd
    · exact hd.elim

theorem unR_sound {P : Program} {op : UnOp} {x : V} {c : Cx} {w : World} {v : Value} (hx : R c x v) {d : V} (hd : (unR op x).holds d) : ∃ u, (Op.unary op v).run P w = .ok u w ∧ R c d u := by
  unfold unR at hd
  split at hd
  · cases hx; simp only [Res.holds] at hd; subst hd; exact ⟨_, by simp [Op.unary], .bool _⟩
  · cases hx; simp only [Res.holds] at hd; subst hd; exact ⟨_, by simp [Op.unary, Op.intArith], .int _ _⟩
  · cases hx; simp only [Res.holds] at hd; subst hd; exact ⟨_, by simp [Op.unary, Op.intBits, bitsV], .int _ _⟩
  · exact hd.elim

theorem strOfNums_toNat (s : List UInt8) : strOfNums (s.map fun b => (b.toNat : Int)) = ⟨s.toArray⟩ := by
  unfold strOfNums
  congr 2
  rw [List.map_map]
  exact List.map_id'' (fun b => by simp) s

theorem bytes_conv {P : Program} {src dst e : TypeId} (hs : P.underlying src = some (.slice e)) (he : P.underlying e = some (.int .u8)) (hd : P.underlying dst = some .string) {c : Cx} {w : World} {xs : List V} {s : List UInt8} (hxs : xs = s.map encB)
    {A : Option Addr} {cap : Nat} (hA : xs ≠ [] → ∃ b o, A = some ⟨b, o, none⟩ ∧ ∀ i x, xs[i]? = some x → ∃ v, w.cell? ⟨b, o + i, none⟩ = some v ∧ R c x v) :
    (convert src dst (.slice A xs.length cap)).run P w = .ok (.string ⟨s.toArray⟩) w := by
  have hlen : xs.length = s.length := by rw [hxs]; simp
  cases A with
  | none =>
    have h0 : xs = [] := by
      rcases Classical.em (xs = []) with h | h
      · exact h
      · obtain ⟨b, o, h1, _⟩ := hA h; cases h1
    have hs0 : s = [] := List.map_eq_nil_iff.1 (hxs.symm.trans h0)
    subst hs0
    exact run_convert_bytes_nil w src e hs he _ _ dst hd
  | some a =>
    rcases Classical.em (xs = []) with h0 | h0
    · have hs0 : s = [] := List.map_eq_nil_iff.1 (hxs.symm.trans h0)
      subst hs0
      rw [h0]
      simp [convert, run_underlying hs, run_underlying he, run_underlying hd, Conv.bytesToString, loadCells, loadCellsFrom]
      rfl
    · obtain ⟨b, o, h1, h2⟩ := hA h0
      injection h1 with h1
      subst h1
      rw [← strOfNums_toNat]
      refine run_convert_bytes_arg w src e hs he b o xs.length cap (s.map fun b => (b.toNat : Int)) (by simp [hlen]) (fun i hi => ?_) dst hd
      obtain ⟨bt, hbt⟩ : ∃ bt, s[i]? = some bt := ⟨_, List.getElem?_eq_getElem (by omega)⟩
      obtain ⟨v, h3, h4⟩ := h2 i (encB bt) (by rw [hxs, List.getElem?_map, hbt]; rfl)
      cases h4
      rw [h3]
      simp [List.getD_eq_getElem?_getD, hbt]

theorem convR_sound {P : Program} {ty : TypeId → TI} (hty : ∀ t, TyOk P t (ty t)) {m : Nat → Option Blk} {src dst : TypeId} {x : V} {c : Cx} {w : World} (hm : ∀ n b, m n = some b → c.mem n = some b) (hs : Sim c w)
    {v : Value} (hx : R c x v) {d : V} (hd : (convR ty m src dst x).holds d) : ∃ u, (convert src dst v).run P w = .ok u w ∧ R c d u := by
  unfold convR at hd
  split at hd
  · exact hd.elim
  · rename_i k ik n htd hn
    obtain ⟨sd, hsd, _⟩ := (hty src).desc (fun h => hn h)
    cases hx
    simp only [Res.holds] at hd
    subst hd
    refine ⟨_, ?_, .int _ _⟩
    simp [convert, run_underlying hsd, run_underlying ((hty dst).int htd), Conv.intToInt]
  · rename_i s htd hn
    obtain ⟨sd, hsd, _⟩ := (hty src).desc (fun h => hn h)
    cases hx
    simp only [Res.holds] at hd
    subst hd
    refine ⟨_, ?_, .str _⟩
    simp [convert, run_underlying hsd, run_underlying ((hty dst).str htd)]
  · rename_i e htd1 htd2 _
    have hs1 := (hty src).slice htd1
    have hd1 := (hty dst).str htd2
    split at hd
    · rename_i htd3 hsz
      have he := (hty e).int htd3
      have lst : ∀ xs, (∃ sz, R c (.list sz xs) v) → (∃ s : List UInt8, xs = s.map encB ∧ d = .str s) → ∃ u, (convert src dst v).run P w = .ok u w ∧ R c d u := by
        rintro xs ⟨sz, hr⟩ ⟨s, h1, rfl⟩
        cases hr with
        | list _ _ A cap b o f hA hcap hl hS hr =>
          refine ⟨_, bytes_conv hs1 he hd1 h1 (c := c) (fun hne => ⟨b, o, hA hne, fun i x hx => ?_⟩), .str s⟩
          have hb : ∃ bt, x = encB bt := by
            rw [h1, List.getElem?_map] at hx
            obtain ⟨bt, _, h3⟩ := Option.map_eq_some_iff.1 hx
            exact ⟨bt, h3.symm⟩
          obtain ⟨bt, rfl⟩ := hb
          have hsz1 : sz = 1 := by have := hl _ (mem_of_at hx); simpa [leaves, encB] using this.symm
          subst hsz1
          exact ⟨f i 0, by have := hs.stab _ _ _ (hS i _ 0 hx (by omega)); simpa using this, (hr i _ 0 _ hx rfl).of_bare⟩
      split at hd
      · exact lst _ ⟨_, hx⟩ hd
      · exact lst _ ⟨_, gl_list hx⟩ hd
      · rename_i n g off len _
        split at hd
        · rename_i g' sz es' hmn
          split at hd
          · rename_i hg hsz1
            have hsz1 := Nat.eq_of_beq_eq_true hsz1
            subst hsz1
            obtain ⟨s, h1, rfl⟩ := hd
            have hm1 := hm _ _ hmn
            obtain ⟨kk, A, cap, hk, rfl, g1, g2, hA⟩ := msl_at hx hm1 hg
            have hl : ((es'.drop off).take len).length = len := by simp; omega
            have := bytes_conv hs1 he hd1 h1 (c := c) (w := w) (A := A) (cap := cap) (fun hne => by
              have h0 : 0 < len := by rcases Nat.eq_zero_or_pos len with h | h; (subst h; simp at hne); exact h
              refine ⟨kk, off * 1, hA (by omega), fun i x hx => ?_⟩
              rw [List.getElem?_take] at hx
              split at hx
              · rw [List.getElem?_drop] at hx
                have hb : leaves x = [x] := by
                  have : x ∈ (es'.drop off).take len := mem_of_at (i := i) (by rw [List.getElem?_take, if_pos (by assumption), List.getElem?_drop]; exact hx)
                  rw [h1] at this
                  obtain ⟨bt, _, rfl⟩ := List.mem_map.1 this
                  rfl
                have := row_cell hs hm1 hk hx 0 x (by rw [hb]; rfl)
                simpa using this
              · cases hx)
            rw [hl] at this
            exact ⟨_, this, .str s⟩
          · exact hd.elim
        · exact hd.elim
      · cases hx with
        | esl A =>
          simp only [Res.holds] at hd
          subst hd
          have := bytes_conv hs1 he hd1 (c := c) (w := w) (xs := []) (s := []) rfl (A := A) (cap := 0) (fun h => absurd rfl h)
          exact ⟨_, this, .str []⟩
      · exact hd.elim
    · exact hd.elim
  · exact hd.elim

/-! ### Literals -/
theorem putCells {c : Cx} {zl : List V} {zs : List Value} (hl : zl.length = zs.length) (hr : ∀ (i : Nat) (x : V) (v : Value), zl[i]? = some x → zs[i]? = some v → R c x v) {off : Nat} {xs : List V} {vs : List Value}
    (hl2 : xs.length = vs.length) (hr2 : ∀ (i : Nat) (x : V) (v : Value), xs[i]? = some x → vs[i]? = some v → R c x v) (hb : off + xs.length ≤ zl.length) :
    ∃ zs' : List Value, (vs.toArray.zipIdx.foldl (fun cs (p : Value × Nat) => cs.setIfInBounds (off + p.2) p.1) zs.toArray) = zs'.toArray ∧ (putL zl off xs).length = zs'.length ∧
      ∀ (i : Nat) (x : V) (v : Value), (putL zl off xs)[i]? = some x → zs'[i]? = some v → R c x v := by
  have key : ∀ (us : List Value) (k : Nat) (cs : List Value), off + k + us.length ≤ cs.length →
      (us.zipIdx k).foldl (fun (cs : Array Value) (p : Value × Nat) => cs.setIfInBounds (off + p.2) p.1) cs.toArray = (cs.take (off + k) ++ us ++ cs.drop (off + k + us.length)).toArray := by
    intro us
    induction us with
    | nil => intro k cs h; simp
    | cons u us ih =>
      intro k cs h
      simp only [List.length_cons] at h
      rw [List.zipIdx_cons, List.foldl_cons, List.setIfInBounds_toArray, ih (k + 1) _ (by rw [List.length_set]; omega)]
      congr 1
      apply List.ext_getElem?
      intro i
      have e1 : min (off + (k + 1)) cs.length = off + (k + 1) := by omega
      have e2 : min (off + k) cs.length = off + k := by omega
      simp only [List.getElem?_append, List.length_append, List.length_take, List.length_set, List.length_cons, List.getElem?_take, List.getElem?_drop, List.getElem?_set, e1, e2]
      rcases Nat.lt_trichotomy i (off + k) with h1 | h1 | h1
      · rw [if_pos (by omega), if_pos (by omega), if_pos (by omega), if_neg (by omega), if_pos (by omega), if_pos (by omega), if_pos (by omega)]
      · subst h1
        rw [if_pos (by omega), if_pos (by omega), if_pos (by omega), if_pos rfl, if_pos (by omega), if_pos (by omega), if_neg (by omega)]
        simp
      · by_cases h2 : i < off + k + (us.length + 1)
        · rw [if_pos (by omega), if_neg (by omega), if_pos (by omega), if_neg (by omega)]
          rw [show i - (off + k) = i - (off + (k + 1)) + 1 by omega, List.getElem?_cons_succ]
        · rw [if_neg (by omega), if_neg (by omega), if_neg (by omega)]
          congr 1
          omega
  refine ⟨zs.take off ++ vs ++ zs.drop (off + vs.length), ?_, ?_, ?_⟩
  · have := key vs 0 zs (by omega)
    simpa using this
  · simp [putL]; omega
  · intro i x v h1 h2
    unfold putL at h1
    simp only [List.getElem?_append, List.length_append, List.length_take, List.getElem?_take, List.getElem?_drop] at h1 h2
    have e1 : min off zl.length = off := by omega
    have e2 : min off zs.length = off := by omega
    rw [e1] at h1
    rw [e2] at h2
    by_cases g1 : i < off
    · rw [if_pos (by omega), if_pos g1, if_pos g1] at h1
      rw [if_pos (by omega), if_pos g1, if_pos g1] at h2
      exact hr i x v h1 h2
    · by_cases g2 : i < off + xs.length
      · rw [if_pos g2, if_neg g1] at h1
        rw [if_pos (by omega), if_neg g1] at h2
        exact hr2 _ x v h1 h2
      · rw [if_neg g2] at h1
        rw [if_neg (by omega)] at h2
        rw [hl2] at h1
        exact hr _ x v h1 h2
end Go.Ab

/- The machine yields what the evaluator says: literals, parts of slices, builtins; all together. -/
namespace Go.Ab

theorem cells_of {c : Cx} {x : V} {v : Value} (h : R c x v) (hp : plainV x = true) : ∃ vs : List Value, v.cells = vs.toArray ∧ (leaves x).length = vs.length ∧
    ∀ (i : Nat) (y : V) (u : Value), (leaves x)[i]? = some y → vs[i]? = some u → R c y u := by
  cases h with
  | any => cases hp
  | lit => cases hp
  | tup => cases hp
  | agg xs vs hl hr => exact ⟨vs, rfl, hl, hr⟩
  | int k n => exact ⟨[.int k n], rfl, rfl, fun i y u h1 h2 => by cases i <;> simp [leaves] at h1 h2; subst h1 h2; exact .int k n⟩
  | bool b => exact ⟨[.bool b], rfl, rfl, fun i y u h1 h2 => by cases i <;> simp [leaves] at h1 h2; subst h1 h2; exact .bool b⟩
  | str s => exact ⟨[_], rfl, rfl, fun i y u h1 h2 => by cases i <;> simp [leaves] at h1 h2; subst h1 h2; exact .str s⟩
  | nilp => exact ⟨[_], rfl, rfl, fun i y u h1 h2 => by cases i <;> simp [leaves] at h1 h2; subst h1 h2; exact .nilp⟩
  | ptr n g i j sz es k hm hk => exact ⟨[_], rfl, rfl, fun i y u h1 h2 => by cases i <;> simp [leaves] at h1 h2; subst h1 h2; exact .ptr _ _ _ _ sz es k hm hk⟩
  | ptr0 n g i j b A hm hg => exact ⟨[_], rfl, rfl, fun i y u h1 h2 => by cases i <;> simp [leaves] at h1 h2; subst h1 h2; exact .ptr0 _ _ _ _ b A hm hg⟩
  | sp ls j b o f hS hr => exact ⟨[_], rfl, rfl, fun i y u h1 h2 => by cases i <;> simp [leaves] at h1 h2; subst h1 h2; exact .sp ls j b o f hS hr⟩
  | list sz xs A cap b o f hA hcap hl hS hr => exact ⟨[_], rfl, rfl, fun i y u h1 h2 => by cases i <;> simp [leaves] at h1 h2; subst h1 h2; exact .list sz xs A cap b o f hA hcap hl hS hr⟩
  | gl n g sz xs v k h hm hk hv => exact ⟨[v], by rw [hv]; rfl, rfl, fun i y u h1 h2 => by cases i <;> simp [leaves] at h1 h2; subst h1 h2; exact .gl n g sz xs v k h hm hk hv⟩
  | gl0 n g sz A hm => exact ⟨[_], rfl, rfl, fun i y u h1 h2 => by cases i <;> simp [leaves] at h1 h2; subst h1 h2; exact .gl0 n g sz A hm⟩
  | glx n g sz xs v b h hm hg =>
    have hc : v.cells = #[v] := by cases h; rfl
    exact ⟨[v], hc, rfl, fun i y u h1 h2 => by cases i <;> simp [leaves] at h1 h2; subst h1 h2; exact .glx n g sz xs v b h hm hg⟩
  | msl n g off len sz es k A cap hm hk h1 h2 hA => exact ⟨[_], rfl, rfl, fun i y u h1' h2' => by cases i <;> simp [leaves] at h1' h2'; subst h1' h2'; exact .msl n g off len sz es k A cap hm hk h1 h2 hA⟩
  | msl0 n g off len b A cap hm hg => exact ⟨[_], rfl, rfl, fun i y u h1 h2 => by cases i <;> simp [leaves] at h1 h2; subst h1 h2; exact .msl0 _ _ _ _ b A cap hm hg⟩
  | esl A => exact ⟨[_], rfl, rfl, fun i y u h1 h2 => by cases i <;> simp [leaves] at h1 h2; subst h1 h2; exact .esl A⟩
  | iface t x v h => exact ⟨[_], rfl, rfl, fun i y u h1 h2 => by cases i <;> simp [leaves] at h1 h2; subst h1 h2; exact .iface t x v h⟩
  | nili => exact ⟨[_], rfl, rfl, fun i y u h1 h2 => by cases i <;> simp [leaves] at h1 h2; subst h1 h2; exact .nili⟩
  | fn f xs vs hl hr => exact ⟨[_], rfl, rfl, fun i y u h1 h2 => by cases i <;> simp [leaves] at h1 h2; subst h1 h2; exact .fn f xs vs hl hr⟩

theorem fill_sound {c : Cx} {place : Nat → Option (Nat × Nat)} : ∀ (ps : List (Nat × V)) (qs : List (Nat × Value)), ps.length = qs.length →
    (∀ (i : Nat) (p : Nat × V) (q : Nat × Value), ps[i]? = some p → qs[i]? = some q → p.1 = q.1 ∧ R c p.2 q.2) → ∀ (zl : List V) (zs : List Value), zl.length = zs.length →
    (∀ (i : Nat) (x : V) (v : Value), zl[i]? = some x → zs[i]? = some v → R c x v) → ∀ r, fillV place zl ps = some r →
    ∃ us : List Value, Instr.fill place zs.toArray qs = some us.toArray ∧ r.length = us.length ∧ ∀ (i : Nat) (x : V) (v : Value), r[i]? = some x → us[i]? = some v → R c x v
  | [], [], _, _, zl, zs, hl, hr, r, h => by
    simp only [fillV] at h
    injection h with h
    subst h
    exact ⟨zs, rfl, hl, hr⟩
  | (i, x) :: ps, (j, v) :: qs, hlen, hps, zl, zs, hl, hr, r, h => by
    obtain ⟨e1, hx⟩ := hps 0 _ _ rfl rfl
    simp only at e1 hx
    subst e1
    simp only [fillV] at h
    split at h
    · cases h
    rename_i off size hpl
    split at h
    case h_2 => cases h
    rename_i b1 b2 b3
    have b2 := Nat.eq_of_beq_eq_true b2
    have b3 := Nat.le_of_ble_eq_true b3
    obtain ⟨vs, hc, hl2, hr2⟩ := cells_of hx b1
    obtain ⟨zs', g1, g2, g3⟩ := putCells hl hr hl2 hr2 (off := off) (by omega)
    obtain ⟨us, k1, k2, k3⟩ := fill_sound ps qs (by simpa using hlen) (fun i p q h1 h2 => hps (i + 1) p q (by simpa using h1) (by simpa using h2)) _ zs' g2 g3 r h
    refine ⟨us, ?_, k2, k3⟩
    simp only [Instr.fill, hpl]
    rw [hc]
    have hno : ¬ ((vs.toArray.size ≠ size) || (off + vs.toArray.size > zs.toArray.size)) = true := by
      simp; omega
    rw [if_neg hno, g1]
    exact k1

theorem leaves_constL (v : Value) : leaves (constL v) = [constL v] := by
  unfold constL
  split <;> rfl
theorem cells_constV (c : Cx) (z : Value) : ∃ zs : List Value, z.cells = zs.toArray ∧ (leaves (constV z)).length = zs.length ∧ ∀ (i : Nat) (x : V) (v : Value), (leaves (constV z))[i]? = some x → zs[i]? = some v → R c x v := by
  by_cases h : ∃ cs, z = .agg cs
  · obtain ⟨cs, rfl⟩ := h
    refine ⟨cs.toList, by simp [Value.cells], by simp [constV, leaves], fun i x v hx hv => ?_⟩
    simp only [constV, leaves] at hx
    rw [List.getElem?_map, hv] at hx
    injection hx with hx
    subst hx
    exact constL_R c v
  · have h1 : constV z = constL z := by cases z <;> first | rfl | exact absurd ⟨_, rfl⟩ h
    have h2 : z.cells = #[z] := by cases z <;> first | rfl | exact absurd ⟨_, rfl⟩ h
    refine ⟨[z], by rw [h2], by rw [h1, leaves_constL]; rfl, fun i x v hx hv => ?_⟩
    rw [h1, leaves_constL] at hx
    cases i with
    | zero => simp at hx hv; subst hx hv; exact constL_R c z
    | succ i => simp at hx

theorem getElem?_mem' {α : Type} {xs : Array α} {i : Nat} {x : α} (h : xs.toList[i]? = some x) : x ∈ xs := by
  have := List.mem_of_getElem? h
  simpa using this

theorem places_run {P : Program} {ty : TypeId → TI} (hty : ∀ t, TyOk P t (ty t)) (w : World) : ∀ (fs : List Field), (∀ f ∈ fs, (ty f.type).td ≠ .unk) →
    ∃ pl : List (Nat × Nat), (fs.mapM fun f => (do pure (f.offset, ← Go.sizeOf f.type) : Sem (Nat × Nat))).run P w = .ok pl w ∧ pl = fs.map fun f => (f.offset, (ty f.type).size)
  | [], _ => ⟨[], by simp, rfl⟩
  | f :: fs, h => by
    obtain ⟨pl, h1, h2⟩ := places_run hty w fs (fun g hg => h g (by simp [hg]))
    refine ⟨(f.offset, (ty f.type).size) :: pl, ?_, by rw [h2]; rfl⟩
    simp only [List.mapM_cons, Sem.run_bind, (hty f.type).run_size (h f (by simp)), Result.andThen_ok, Sem.run_pure, h1]

theorem buildR_sound {P : Program} {ty : TypeId → TI} (hty : ∀ t, TyOk P t (ty t)) {ρ : Operand → V} {e : Operand → Value} {T : TypeId} {parts : Array (Nat × Operand)} {c : Cx} {w : World}
    (hp : ∀ p ∈ parts, R c (ρ p.2) (e p.2)) {d : V} (hd : (buildR ty ρ T parts.toList).holds d) : ∃ u, (Instr.build T (parts.map fun (i, x) => (i, e x))).run P w = .ok u w ∧ R c d u := by
  have hzero : (ty T).td ≠ .unk → ∃ z zs, (zeroValue T).run P w = .ok z w ∧ z.cells = (zs : List Value).toArray ∧ (leaves (ty T).zero).length = zs.length ∧ ∀ (i : Nat) (x : V) (v : Value), (leaves (ty T).zero)[i]? = some x → zs[i]? = some v → R c x v := by
    intro hn
    obtain ⟨i, z, h1, h2, h3, h4, h5⟩ := (hty T).info hn
    obtain ⟨zs, g1, g2, g3⟩ := cells_constV c z
    rw [h5] at g2 g3
    exact ⟨z, zs, by simp [zeroValue, typeInfo, h1, h4], g1, g2, g3⟩
  have hps : ∀ (i : Nat) (p : Nat × V) (q : Nat × Value), (parts.toList.map fun p => (p.1, ρ p.2))[i]? = some p → ((parts.map fun (i, x) => (i, e x)).toList)[i]? = some q → p.1 = q.1 ∧ R c p.2 q.2 := by
    intro i p q h1 h2
    rw [Array.toList_map, List.getElem?_map] at h2
    rw [List.getElem?_map] at h1
    obtain ⟨a, ha, rfl⟩ := Option.map_eq_some_iff.1 h1
    rw [ha] at h2
    injection h2 with h2
    subst h2
    exact ⟨rfl, hp a (getElem?_mem' ha)⟩
  unfold buildR at hd
  split at hd
  · rename_i fs htd
    obtain ⟨F, hF, hfs⟩ := (hty T).strct htd
    split at hd
    case h_2 => exact hd.elim
    rename_i r hfill hall
    simp only [Res.holds] at hd
    subst hd
    obtain ⟨z, zs, hz, hzc, hzl, hzr⟩ := hzero (by simp [htd])
    have hplaces : ∃ pl : Array (Nat × Nat), (F.mapM fun f => do pure (f.offset, ← Go.sizeOf f.type) : Sem (Array (Nat × Nat))).run P w = .ok pl w ∧ ∀ i, pl[i]? = (nth fs i).map fun p => (p.1, (ty p.2).size) := by
      obtain ⟨pl, h1, h2⟩ := places_run hty w F.toList (fun f hf => TD.isUnk_false (by
        have := List.all_eq_true.1 hall (f.offset, f.type) (by rw [← hfs]; exact List.mem_map.2 ⟨f, hf, rfl⟩)
        simpa using this))
      refine ⟨pl.toArray, ?_, fun i => ?_⟩
      · rw [Array.mapM_eq_mapM_toList, Sem.run_map, h1]
        rfl
      · rw [nth_eq, ← hfs, List.getElem?_map, List.getElem?_toArray, h2, List.getElem?_map, Option.map_map]
        rfl
    obtain ⟨pl, hpl, hpl2⟩ := hplaces
    have hpleq : (fun i => (nth fs i).map fun p => (p.1, (ty p.2).size)) = (pl[·]?) := funext fun i => (hpl2 i).symm
    rw [hpleq] at hfill
    obtain ⟨us, h1, h2, h3⟩ := fill_sound _ _ (by simp) hps _ zs hzl hzr r hfill
    refine ⟨.agg us.toArray, ?_, .agg r us h2 h3⟩
    simp only [Instr.build, Sem.run_bind, hz, Result.andThen_ok, run_underlying hF, hpl, hzc, h1, Sem.run_pure]
  · rename_i n el htd
    split at hd
    case h_2 => exact hd.elim
    rename_i r hfill hall
    simp only [Res.holds] at hd
    subst hd
    obtain ⟨z, zs, hz, hzc, hzl, hzr⟩ := hzero (by simp [htd])
    obtain ⟨us, h1, h2, h3⟩ := fill_sound _ _ (by simp) hps _ zs hzl hzr r hfill
    refine ⟨.agg us.toArray, ?_, .agg r us h2 h3⟩
    simp only [Instr.build, Sem.run_bind, hz, Result.andThen_ok, run_underlying ((hty T).arr htd), (hty el).run_size (TD.isUnk_false hall), hzc, h1, Sem.run_pure]
  · exact hd.elim

/-! ### Parts of strings and slices -/
theorem bounds_run {P : Program} {w : World} {c : Cx} {ρ : Operand → V} {e : Operand → Value} {lo hi : Option Operand} (hlo : ∀ x, lo = some x → R c (ρ x) (e x)) (hhi : ∀ x, hi = some x → R c (ρ x) (e x))
    {n cap : Nat} {l h : Int} (h1 : boundV (lo.map ρ) 0 = some l) (h2 : boundV (hi.map ρ) n = some h) (g0 : 0 ≤ l) (g1 : l ≤ h) (g2 : h ≤ n) (g3 : n ≤ cap) (b : Bool) :
    (Instr.sliceBounds b n cap (lo.map e) (hi.map e) none).run P w = .ok (l.toNat, h.toNat, cap) w := by
  have hlow : ∀ (y : Nat), h ≤ y → (match lo.map e with | some v => Instr.sliceBound v y .sliceB | none => pure 0 : Sem Nat).run P w = .ok l.toNat w := by
    intro y hy
    cases lo with
    | none => simp only [boundV, Option.map_none] at h1; injection h1 with h1; subst h1; rfl
    | some x =>
      have hx := hlo x rfl
      simp only [Option.map_some] at h1 ⊢
      generalize ρ x = vx at *
      cases vx <;> simp only [boundV] at h1
      all_goals first | (cases h1; done) | skip
      injection h1 with h1
      subst h1
      generalize e x = ev at *
      cases hx
      exact run_sliceBound _ _ _ _ _ g0 (by omega)
  have hhigh : ∀ code, (match hi.map e with | some v => Instr.sliceBound v cap code | none => pure n : Sem Nat).run P w = .ok h.toNat w := by
    intro code
    cases hi with
    | none => simp only [boundV, Option.map_none] at h2; injection h2 with h2; subst h2; simp
    | some x =>
      have hx := hhi x rfl
      simp only [Option.map_some] at h2 ⊢
      generalize ρ x = vx at *
      cases vx <;> simp only [boundV] at h2
      all_goals first | (cases h2; done) | skip
      injection h2 with h2
      subst h2
      generalize e x = ev at *
      cases hx
      exact run_sliceBound _ _ _ _ _ (by omega) (by omega)
  unfold Instr.sliceBounds
  simp only [Sem.run_bind, Sem.run_pure, Result.andThen_ok]
  have hh := hhigh (if b = true then .sliceAcap else .sliceAlen)
  cases hi <;> simp only [Option.map_none, Option.map_some, Sem.run_bind, Sem.run_pure, Result.andThen_ok] at hh ⊢ <;> first
    | (rw [hh]; simp only [Result.andThen_ok, Option.isSome_none, Bool.false_eq_true, if_false]
       have hl := hlow h.toNat (by omega); cases lo <;> simp only [Option.map_none, Option.map_some, Sem.run_bind, Sem.run_pure, Result.andThen_ok] at hl ⊢ <;> first | (rw [hl]; rfl) | (injection hl with hl; rw [← hl]))
    | (injection hh with hh
       have hl := hlow n (by omega); cases lo <;> simp only [Option.map_none, Option.map_some, Sem.run_bind, Sem.run_pure, Result.andThen_ok, Option.isSome_none, Bool.false_eq_true, if_false] at hl ⊢ <;> first | (rw [hl, ← hh]; rfl) | (injection hl with hl; rw [← hl, ← hh]))

theorem str_extract (s : List UInt8) (l h : Nat) : (⟨s.toArray⟩ : ByteArray).extract l h = ⟨((s.drop l).take (h - l)).toArray⟩ := by
  apply ByteArray.ext
  rw [ByteArray.data_extract]
  simp [List.extract_toArray, List.take_drop]

theorem list_part {c : Cx} {sz : Nat} {xs : List V} {v : Value} (h : R c (.list sz xs) v) (l hh : Nat) (h1 : l ≤ hh) (h2 : hh ≤ xs.length) : ∃ A cap, v = .slice A xs.length cap ∧ xs.length ≤ cap ∧
    ∀ A' cap', (l < hh → A' = A.map (·.add (l * sz))) → hh - l ≤ cap' → R c (.list sz ((xs.drop l).take (hh - l))) (.slice A' (hh - l) cap') := by
  cases h with
  | list _ _ A cap b o f hA hcap hl hS hr =>
    refine ⟨A, cap, rfl, hcap, fun A' cap' hA' hc' => ?_⟩
    have hlen : ((xs.drop l).take (hh - l)).length = hh - l := by simp; omega
    have hat : ∀ i x, ((xs.drop l).take (hh - l))[i]? = some x → xs[l + i]? = some x := by
      intro i x hx
      rw [List.getElem?_take] at hx
      split at hx
      · rwa [List.getElem?_drop] at hx
      · cases hx
    have := R.list (c := c) sz ((xs.drop l).take (hh - l)) A' cap' b (o + l * sz) (fun i j => f (l + i) j) (fun hne => by
        have : l < hh := by
          rcases Nat.lt_or_ge l hh with h | h
          · exact h
          · exact absurd (List.eq_nil_of_length_eq_zero (by omega)) hne
        rw [hA' this, hA (fun e => by rw [e] at h2; simp at h2; omega)]
        simp [add_none]) (by omega) (fun x hx => hl x (List.mem_of_mem_drop (List.mem_of_mem_take hx)))
      (fun i x j hx hj => by
        have := hS (l + i) x j (hat i x hx) hj
        rwa [Nat.add_mul, ← Nat.add_assoc] at this)
      (fun i x j y hx hy => hr (l + i) x j y (hat i x hx) hy)
    rwa [hlen] at this

theorem sliceR_sound {P : Program} {ty : TypeId → TI} (hty : ∀ t, TyOk P t (ty t)) {ρ : Operand → V} {e : Operand → Value} {T : TypeId} {m : Nat → Option Blk} {c : Cx} {w : World} (hm : ∀ n b, m n = some b → c.mem n = some b)
    {x : V} {v : Value} (hx : R c x v) {lo hi mx : Option Operand} (hlo : ∀ x, lo = some x → R c (ρ x) (e x)) (hhi : ∀ x, hi = some x → R c (ρ x) (e x)) (hmx : ∀ x, mx = some x → R c (ρ x) (e x))
    {d : V} (hd : (sliceR ty T m x (lo.map ρ) (hi.map ρ) (mx.map ρ)).holds d) : ∃ u, (Instr.sliceAt T v (lo.map e) (hi.map e) (mx.map e)).run P w = .ok u w ∧ R c d u := by
  have elem : ∀ {e}, (ty T).td = .slice e → P.elem T = e := fun htd => by simp [Program.elem, (hty T).slice htd]
  have goS : ∀ {e' : TypeId} {A : Option Addr} {n cap : Nat} {l h : Int}, (ty T).td = .slice e' → (ty e').td ≠ .unk → mx = none → boundV (lo.map ρ) 0 = some l → boundV (hi.map ρ) n = some h → 0 ≤ l → l ≤ h → h ≤ n → n ≤ cap →
      (Instr.sliceAt T (.slice A n cap) (lo.map e) (hi.map e) (mx.map e)).run P w = .ok (.slice (if cap = l.toNat then A else A.map (·.add (l.toNat * (ty e').size))) (h.toNat - l.toNat) (cap - l.toNat)) w := by
    intro e' A n cap l h htd hn hm0 h1 h2 g0 g1 g2 g3
    have hT := (hty T).slice htd
    have hel : P.underlying T = some (.slice (P.elem T)) := by rw [elem htd]; exact hT
    rw [run_sliceAt_slice w T _ _ _ _ hel, run_slice_any w T A n cap hel, hm0]
    simp only [Option.map_none]
    rw [bounds_run hlo hhi h1 h2 g0 g1 g2 g3 true, elem htd]
    simp only [Result.andThen_ok, (hty e').run_size hn, sliced]
  unfold sliceR at hd
  split at hd
  · rename_i ik hmx0
    split at hd
    · rename_i e' ik2 htd hlo0 hhi0
      have h1 : lo = none := by cases lo <;> simp_all
      obtain ⟨hx2, rfl, hhx⟩ : ∃ y, hi = some y ∧ ρ y = .int ik2 0 := by cases hi <;> simp_all
      obtain ⟨mx2, rfl, hmxx⟩ : ∃ y, mx = some y ∧ ρ y = .int ik 0 := by cases mx <;> simp_all
      subst h1
      have r1 := hhi hx2 rfl
      have r2 := hmx mx2 rfl
      rw [hhx] at r1
      rw [hmxx] at r2
      generalize hev1 : e hx2 = ev1 at *
      generalize hev2 : e mx2 = ev2 at *
      cases r1
      cases r2
      have go : ∀ A n cap, (ty e').td ≠ .unk → (Instr.sliceAt T (.slice A n cap) (Option.map e none) (Option.map e (some hx2)) (Option.map e (some mx2))).run P w = .ok (.slice A 0 0) w := by
        intro A n cap hn
        have hT := (hty T).slice htd
        simp [Instr.sliceAt, run_underlying hT, Instr.slice, Instr.sliceBounds, hev1, hev2, Instr.sliceBound, asIntOf, (hty e').run_size hn]
      split at hd
      · exact hd.elim
      · rename_i hn
        simp only [Res.holds] at hd; subst hd
        cases hx
        exact ⟨_, go _ _ _ (fun h => hn h), .esl _⟩
      · rename_i hn
        simp only [Res.holds] at hd; subst hd
        cases gl_list hx; exact ⟨_, go _ _ _ (fun h => hn h), .esl _⟩
      · rename_i hn
        simp only [Res.holds] at hd; subst hd
        cases hx
        exact ⟨_, go _ _ _ (fun h => hn h), .esl _⟩
      · exact hd.elim
    · exact hd.elim
  · exact hd.elim
  · have hmx0 : mx = none := by cases mx <;> simp_all
    split at hd
    · rename_i s htd
      have hT := (hty T).str htd
      split at hd
      · rename_i l h h1 h2
        obtain ⟨⟨g0, g1, g2⟩, rfl⟩ := hd
        cases hx
        refine ⟨_, ?_, .str _⟩
        rw [run_sliceAt_string w T _ _ _ _ hT, hmx0]
        have hb := bounds_run (P := P) (w := w) hlo hhi h1 h2 g0 g1 g2 (Nat.le_refl _) false
        simp only [Instr.slice, Sem.run_bind, run_underlying hT, Result.andThen_ok, Option.map_none, Option.isSome_none, Bool.false_eq_true, if_false, Sem.run_pure]
        have e1 : (⟨s.toArray⟩ : ByteArray).size = s.length := rfl
        rw [e1, hb]
        simp only [Result.andThen_ok, str_extract]
      · exact hd.elim
    · rename_i e' htd
      split at hd
      · exact hd.elim
      · rename_i hunk
        have hn := TD.isUnk_false hunk
        have lst : ∀ sz xs l h, R c (.list sz xs) v → Nat.beq sz (ty e').size = true → boundV (lo.map ρ) 0 = some l → boundV (hi.map ρ) xs.length = some h → ((0 ≤ l ∧ l ≤ h ∧ h ≤ xs.length) ∧ d = .list sz ((xs.drop l.toNat).take (h.toNat - l.toNat))) →
            ∃ u, (Instr.sliceAt T v (lo.map e) (hi.map e) (mx.map e)).run P w = .ok u w ∧ R c d u := by
          rintro sz xs l h hr hsz h1 h2 ⟨⟨g0, g1, g2⟩, rfl⟩
          have hsz := Nat.eq_of_beq_eq_true hsz
          obtain ⟨A, cap, rfl, hcap, hpart⟩ := list_part hr l.toNat h.toNat (by omega) (by omega)
          refine ⟨_, goS htd hn hmx0 h1 h2 g0 g1 g2 hcap, hpart _ _ (fun hlt => ?_) (by omega)⟩
          rw [if_neg (by omega), hsz]
        split at hd
        · split at hd
          · rename_i h0 h1 h2; exact lst _ _ _ _ hx h0 h1 h2 hd
          · exact hd.elim
        · split at hd
          · rename_i h0 h1 h2
            exact lst _ _ _ _ (gl_list hx) h0 h1 h2 hd
          · exact hd.elim
        · rename_i n g off len
          split at hd
          · rename_i g' sz es hmn
            split at hd
            · rename_i l h hg h0 h1 h2
              have hsz := Nat.eq_of_beq_eq_true h0
              obtain ⟨⟨g0, g1, g2⟩, rfl⟩ := hd
              obtain ⟨kk, A, cap, hk, rfl, k1, k2, hA⟩ := msl_at hx (hm _ _ hmn) hg
              have hg := Nat.eq_of_beq_eq_true hg
              subst hg
              refine ⟨_, goS htd hn hmx0 h1 h2 g0 g1 g2 (by omega), .msl n _ _ _ sz es kk _ _ (hm _ _ hmn) hk (by omega) (by omega) (fun hpos => ?_)⟩
              rw [if_neg (by omega), hA (by omega), ← hsz]
              simp [add_none, Nat.add_mul]
            · exact hd.elim
          · exact hd.elim
        · split at hd
          · rename_i l h h1 h2
            obtain ⟨⟨rfl, rfl⟩, rfl⟩ := hd
            cases hx with
            | esl A =>
              have := goS (A := A) (n := 0) (cap := 0) htd hn hmx0 h1 h2 (by omega) (by omega) (by omega) (by omega)
              exact ⟨_, this, .esl _⟩
          · exact hd.elim
        · exact hd.elim
    · exact hd.elim
end Go.Ab

/- The machine yields what the evaluator says: builtins; and all operations together. -/
namespace Go.Ab

theorem minmax_sound {P : Program} {c : Cx} {w : World} {mx : Bool} : ∀ (ys : List V) (us : List Value) (x : V) (v : Value), R c x v → ys.length = us.length → (∀ (i : Nat) (y : V) (u : Value), ys[i]? = some y → us[i]? = some u → R c y u) →
    ∀ d, (minmax mx x ys).holds d → ∃ r, (us.foldlM (if mx = true then Builtin.max2 else Builtin.min2) v).run P w = .ok r w ∧ R c d r
  | [], [], x, v, hx, _, _, d, hd => by
    simp only [minmax, Res.holds] at hd
    subst hd
    exact ⟨v, rfl, hx⟩
  | y :: ys, u :: us, x, v, hx, hl, hr, d, hd => by
    have hy := hr 0 y u rfl rfl
    cases x <;> cases y <;> simp only [minmax] at hd
    all_goals first | exact hd.elim | skip
    split at hd
    · rename_i hk
      have hk := of_decide_eq_true hk
      cases hx
      cases hy
      subst hk
      obtain ⟨r, h1, h2⟩ := minmax_sound (P := P) (w := w) (mx := mx) ys us _ _ (.int _ _) (by simpa using hl) (fun i y u h1 h2 => hr (i + 1) y u (by simpa using h1) (by simpa using h2)) d hd
      refine ⟨r, ?_, h2⟩
      cases mx
      · simp only [List.foldlM_cons, Sem.run_bind, Bool.false_eq_true, if_false, Builtin.min2, Sem.run_pure, Result.andThen_ok] at h1 ⊢
        exact h1
      · simp only [List.foldlM_cons, Sem.run_bind, if_true, Builtin.max2, Sem.run_pure, Result.andThen_ok] at h1 ⊢
        exact h1
    · exact hd.elim

theorem run_builtin {P : Program} {w : World} {e : Operand → Value} {o : Oper} {b : Builtin} {args : Array Operand} {ats : Array TypeId} (ho : o.op = .call ⟨.builtin b, args, ats⟩) :
    ∃ cs, (execOp e o).run P w = (builtin b ats o.type cs (args.map e)).run P w :=
  ⟨args.map fun | .const _ => true | _ => false, by simp only [execOp, ho, resolve, Sem.run_bind, Sem.run_pure, Result.andThen_ok, invoke]; rfl⟩

theorem lenV_slice {c : Cx} {x : V} {v : Value} (h : R c x v) {n : Nat} (hn : lenV x = some n) (hs : ∀ s, x ≠ .str s) : ∃ A cap, v = .slice A n cap := by
  cases h with
  | str s => exact absurd rfl (hs s)
  | list sz xs A cap b o f hA hcap hl hS hr => simp only [lenV] at hn; injection hn with hn; subst hn; exact ⟨_, _, rfl⟩
  | gl n' g sz xs v k h hm hk hv => simp only [lenV] at hn; injection hn with hn; subst hn; exact ⟨_, _, hv⟩
  | gl0 n' g sz A hm => simp only [lenV] at hn; injection hn with hn; subst hn; exact ⟨_, _, rfl⟩
  | glx n' g sz xs v b h hm hg => simp only [lenV] at hn; injection hn with hn; subst hn; cases h; exact ⟨_, _, rfl⟩
  | msl n' g off len sz es k A cap hm hk h1 h2 hA => simp only [lenV] at hn; injection hn with hn; subst hn; exact ⟨_, _, rfl⟩
  | msl0 n' g off len b A cap hm hg => simp only [lenV] at hn; injection hn with hn; subst hn; exact ⟨_, _, rfl⟩
  | esl A => simp only [lenV] at hn; injection hn with hn; subst hn; exact ⟨_, _, rfl⟩
  | _ => simp [lenV] at hn

theorem builtinR_sound {P : Program} {ty : TypeId → TI} (hty : ∀ t, TyOk P t (ty t)) {ρ : Operand → V} {e : Operand → Value} {o : Oper} {b : Builtin} {args : Array Operand} {ats : Array TypeId} (ho : o.op = .call ⟨.builtin b, args, ats⟩) {c : Cx} {w : World}
    (he : ∀ x ∈ args, R c (ρ x) (e x)) {d : V} (hd : (builtinR ty ρ b args.toList ats.toList).holds d) : ∃ v, (execOp e o).run P w = .ok (.value v) w ∧ R c d v := by
  obtain ⟨cs, hrun⟩ := run_builtin (P := P) (w := w) (e := e) ho
  rw [hrun]
  obtain ⟨al⟩ := args
  obtain ⟨tl⟩ := ats
  simp only at hd
  unfold builtinR at hd
  split at hd
  · rename_i x t
    have hx := he x (by simp)
    suffices h : ∃ v, (Builtin.len_ #[t] o.type #[e x]).run P w = .ok v w ∧ R c d v by
      obtain ⟨v, h1, h2⟩ := h
      refine ⟨v, ?_, h2⟩
      simp only [builtin, Sem.run_bind, List.map_toArray, List.map_cons, List.map_nil, h1, Result.andThen_ok, Sem.run_pure]
    split at hd
    · rename_i n htd hlen
      split at hd
      · rename_i s hs
        simp only [Res.holds] at hd; subst hd
        rw [hs] at hx hlen
        simp only [lenV] at hlen
        injection hlen with hlen
        subst hlen
        generalize e x = ev at *
        cases hx
        exact ⟨.int .i64 s.length, by simp [Builtin.len_, run_underlying ((hty t).str htd)]; rfl, .int _ _⟩
      · exact hd.elim
    · rename_i e' n htd hlen
      have hT := (hty t).slice htd
      split at hd
      · exact hd.elim
      · rename_i hns
        simp only [Res.holds] at hd; subst hd
        obtain ⟨A, cap, hv⟩ := lenV_slice hx hlen hns
        rw [hv]
        exact ⟨.int .i64 n, by simp [Builtin.len_, run_underlying hT]; rfl, .int _ _⟩
    · rename_i n e' htd
      simp only [Res.holds] at hd; subst hd
      exact ⟨.int .i64 n, by simp [Builtin.len_, run_underlying ((hty t).arr htd)]; rfl, .int _ _⟩
    · exact hd.elim
  · rename_i x rest
    obtain ⟨r, h1, h2⟩ := minmax_sound (P := P) (w := w) (mx := true) (rest.map ρ) (rest.map e) (ρ x) (e x) (he x (by simp)) (by simp) (fun i y u g1 g2 => by
      rw [List.getElem?_map] at g1 g2
      obtain ⟨z, hz, rfl⟩ := Option.map_eq_some_iff.1 g1
      rw [hz] at g2
      injection g2 with g2
      subst g2
      exact he z (by simp [mem_of_at hz])) d hd
    refine ⟨r, ?_, h2⟩
    simp only [if_true] at h1
    simp [builtin, Builtin.max_, h1]
  · rename_i x rest
    obtain ⟨r, h1, h2⟩ := minmax_sound (P := P) (w := w) (mx := false) (rest.map ρ) (rest.map e) (ρ x) (e x) (he x (by simp)) (by simp) (fun i y u g1 g2 => by
      rw [List.getElem?_map] at g1 g2
      obtain ⟨z, hz, rfl⟩ := Option.map_eq_some_iff.1 g1
      rw [hz] at g2
      injection g2 with g2
      subst g2
      exact he z (by simp [mem_of_at hz])) d hd
    refine ⟨r, ?_, h2⟩
    simp only [Bool.false_eq_true, if_false] at h1
    simp [builtin, Builtin.min_, h1]
  · exact hd.elim

/-- **An operation that the evaluator knows**: it yields what the evaluator says, and leaves the world as it is. -/
theorem evQ_sound {P : Program} {ty : TypeId → TI} (hty : ∀ t, TyOk P t (ty t)) {md : Nat → Md} {ρ : Operand → V} {m : Nat → Option Blk} {e : Operand → Value} {o : Oper} {c : Cx} {w : World}
    (he : ∀ x ∈ o.op.operands, R c (ρ x) (e x)) (hm : ∀ n b, m n = some b → c.mem n = some b) (hs : Sim c w) {d : V} (hd : (evQ ty md ρ m o.op).holds d) :
    ∃ v, (execOp e o).run P w = .ok (.value v) w ∧ R c d v := by
  have lift : ∀ {s : Sem Value}, (∃ u, s.run P w = .ok u w ∧ R c d u) → ∃ v, ((do pure (Next.value (← s))) : Sem Next).run P w = .ok (.value v) w ∧ R c d v := by
    rintro s ⟨u, h1, h2⟩
    exact ⟨u, by simp [h1], h2⟩
  cases hop : o.op with
  | move x =>
    simp only [hop, evQ, Res.holds, force_eq] at hd
    exact ⟨e x, by simp [execOp, hop], by rw [hd]; exact he x (by simp [hop, Op.operands])⟩
  | assign x =>
    simp only [hop, evQ, Res.holds, force_eq] at hd
    exact ⟨e x, by simp [execOp, hop], by rw [hd]; exact he x (by simp [hop, Op.operands])⟩
  | pick g a b =>
    simp only [hop, evQ] at hd
    have h1 := he g (by simp [hop, Op.operands])
    have h2 := he a (by simp [hop, Op.operands])
    have h3 := he b (by simp [hop, Op.operands])
    split at hd
    · rename_i t hg
      rw [hg] at h1
      generalize hev : e g = ev at *
      cases h1
      simp only [Res.holds, force_eq] at hd
      refine ⟨if t then e a else e b, by simp [execOp, hop, hev, asBool], ?_⟩
      rw [hd]
      cases t
      · exact h3
      · exact h2
    · exact hd.elim
  | load T x =>
    simp only [hop, evQ] at hd
    have := loadR_sound (P := P) hty hm hs (he x (by simp [hop, Op.operands])) hd
    simp only [execOp, hop]
    exact lift this
  | nilCheck x =>
    simp only [hop, evQ] at hd
    have h1 := he x (by simp [hop, Op.operands])
    split at hd
    · rename_i n g i j hx
      split at hd
      · rename_i hl
        simp only [Res.holds] at hd
        subst hd
        rw [hx] at h1
        obtain ⟨sz, es, k, hm1, hk, hev⟩ := live_at hm hl h1
        exact ⟨_, by simp [execOp, hop, hev], .ptr n g i j sz es k hm1 hk⟩
      · exact hd.elim
    · rename_i ls j hx
      simp only [Res.holds] at hd
      subst hd
      rw [hx] at h1
      generalize hev : e x = ev at *
      cases h1 with
      | sp _ _ b o f hS hr => exact ⟨_, by simp [execOp, hop, hev], .sp ls j b o f hS hr⟩
    · exact hd.elim
  | fieldAddr T x f =>
    simp only [hop, evQ] at hd
    simp only [execOp, hop]
    exact lift (fieldAddrR_sound hty hm (he x (by simp [hop, Op.operands])) hd)
  | field T x f =>
    simp only [hop, evQ] at hd
    simp only [execOp, hop]
    exact lift (fieldR_sound hty (he x (by simp [hop, Op.operands])) hd)
  | indexAddr T x i =>
    simp only [hop, evQ] at hd
    simp only [execOp, hop]
    exact lift (indexAddrR_sound hty hm (he x (by simp [hop, Op.operands])) (he i (by simp [hop, Op.operands])) hd)
  | index T x i =>
    simp only [hop, evQ] at hd
    simp only [execOp, hop]
    exact lift (indexR_sound hty (he x (by simp [hop, Op.operands])) (he i (by simp [hop, Op.operands])) hd)
  | binOp op T x y T2 =>
    simp only [hop, evQ] at hd
    simp only [execOp, hop]
    exact lift (binR_sound hty hm (he x (by simp [hop, Op.operands])) (he y (by simp [hop, Op.operands])) hd)
  | unOp op T x =>
    simp only [hop, evQ] at hd
    simp only [execOp, hop]
    exact lift (unR_sound (he x (by simp [hop, Op.operands])) hd)
  | convert src dst x =>
    simp only [hop, evQ] at hd
    simp only [execOp, hop]
    exact lift (convR_sound hty hm hs (he x (by simp [hop, Op.operands])) hd)
  | makeInterface T x =>
    simp only [hop, evQ] at hd
    have hx := he x (by simp [hop, Op.operands])
    simp only [execOp, hop]
    refine lift ?_
    split at hd
    · exact hd.elim
    · exact hd.elim
    · rename_i h1 h2
      simp only [Res.holds, force_eq] at hd
      subst hd
      obtain ⟨dd, g1, g2⟩ := (hty T).desc (fun h => h1 h)
      refine ⟨.iface T (e x), ?_, .iface T _ _ hx⟩
      cases dd <;> first
        | (simp [Instr.makeInterface, run_underlying g1]; done)
        | exact absurd g2.symm h2
  | makeFunc fn first captured =>
    simp only [hop] at hd
    cases fn with
    | func f =>
      simp only [evQ] at hd
      split at hd
      · rename_i hf
        simp only [Res.holds] at hd
        subst hd
        have hf0 : first = #[] := by cases first; simp_all
        subst hf0
        have := R.fn (c := c) f (captured.toList.map ρ) (captured.toList.map e) (by simp) (fun i x v h1 h2 => by
          rw [List.getElem?_map] at h1 h2
          obtain ⟨y, hy, rfl⟩ := Option.map_eq_some_iff.1 h1
          rw [hy] at h2
          injection h2 with h2
          subst h2
          exact he y (by simp only [hop, Op.operands, Array.empty_append]; exact getElem?_mem' hy))
        refine ⟨_, ?_, this⟩
        simp [execOp, hop, Instr.makeFunc]
        apply Array.ext'
        simp
      · exact hd.elim
    | _ => exact hd.elim
  | extract x i =>
    simp only [hop, evQ] at hd
    have hx := he x (by simp [hop, Op.operands])
    simp only [execOp, hop]
    refine lift ?_
    split at hd
    · rename_i xs hxs
      rw [nth_eq] at hd
      split at hd
      · rename_i y hy
        simp only [Res.holds, force_eq] at hd
        subst hd
        rw [hxs] at hx
        generalize e x = ev at *
        cases hx with
        | tup _ vs hl hr =>
          have hlt : i < vs.length := by rw [← hl]; exact (List.getElem?_eq_some_iff.1 hy).1
          exact ⟨vs[i], by simp [Instr.extract, hlt], hr i _ _ hy (List.getElem?_eq_getElem hlt)⟩
      · exact hd.elim
    · exact hd.elim
  | build T parts =>
    simp only [hop, evQ] at hd
    simp only [execOp, hop]
    exact lift (buildR_sound hty (fun p hp => he p.2 (by
      simp only [hop, Op.operands]
      simp only [List.mem_toArray, List.mem_map]
      exact ⟨p, by simpa using hp, rfl⟩)) hd)
  | slice T x lo hi mx =>
    simp only [hop, evQ] at hd
    have hmem : ∀ o' : Option Operand, (∃ z, o' = some z ∧ (o' = lo ∨ o' = hi ∨ o' = mx)) → ∀ z, o' = some z → R c (ρ z) (e z) := by
      rintro o' ⟨z0, h0, h1⟩ z rfl
      apply he z
      rw [hop]
      rcases h1 with h1 | h1 | h1 <;> simp [Op.operands, ← h1]
    simp only [execOp, hop]
    exact lift (sliceR_sound (lo := lo) (hi := hi) (mx := mx) hty hm (he x (by simp [hop, Op.operands])) (fun z hz => hmem lo ⟨z, hz, .inl rfl⟩ z hz) (fun z hz => hmem hi ⟨z, hz, .inr (.inl rfl)⟩ z hz) (fun z hz => hmem mx ⟨z, hz, .inr (.inr rfl)⟩ z hz) hd)
  | call cl =>
    obtain ⟨callee, args, ats⟩ := cl
    cases callee with
    | builtin b =>
      simp only [hop, evQ] at hd
      exact builtinR_sound hty hop (fun x hx => he x (by simp [hop, Op.operands, Call.operands, hx])) hd
    | _ => simp only [hop, evQ] at hd; exact hd.elim
  | _ => simp only [hop, evQ] at hd; exact hd.elim
end Go.Ab

/- New blocks: a row of the memory's own, a list that nobody writes, a list with room behind it. -/
namespace Go.Ab

def ngen (m : Nat → Option Blk) (d : Nat) : Nat := match m d with | some b => b.gen + 1 | none => 0

/-- The world has one block more, at its end. -/
structure Grew (w w' : World) (cs : Array Value) (T : TypeId) (fr : Nat × Nat) : Prop where
  os : w'.os = w.os
  tape : w'.tape = w.tape
  output : w'.output = w.output
  size : w'.heap.size = w.heap.size + 1
  old : ∀ k, k < w.heap.size → w'.heap[k]? = w.heap[k]?
  new : w'.heap[w.heap.size]? = some (.cells cs T fr)
  loose : Loose cs fr

theorem Grew.alloc (w : World) (cs : Array Value) (T : TypeId) : Grew w (w.alloc (.cells cs T)) cs T (0, 0) where
  os := rfl
  tape := rfl
  output := rfl
  size := by simp
  old k hk := heap_alloc_old w _ k hk
  new := heap_alloc_new w _
  loose o _ h := by omega
theorem Grew.drew_alloc (w : World) (cs : Array Value) (T : TypeId) : Grew w (w.drew.alloc (.cells cs T)) cs T (0, 0) where
  os := rfl
  tape := rfl
  output := rfl
  size := by simp
  old k hk := heap_alloc_old w.drew _ k hk
  new := heap_alloc_new w.drew _
  loose o _ h := by omega

theorem Sim.S_lt {c : Cx} {w : World} (h : Sim c w) {b o : Nat} {v : Value} (hv : c.S b o = some v) : b < w.heap.size := World.block_lt_of_cell? w _ (h.stab b o v hv)
theorem Sim.S_none {c : Cx} {w : World} (h : Sim c w) {b : Nat} (hb : w.heap.size ≤ b) (o : Nat) : c.S b o = none := by
  cases hv : c.S b o with
  | none => rfl
  | some v => have := h.S_lt hv; omega
theorem Sim.ι_lt {c : Cx} {w : World} (h : Sim c w) {n k : Nat} (hm : c.mem n ≠ none) (hk : c.ι n = some k) : k < w.heap.size := by
  cases hb : c.mem n with
  | none => exact absurd hb hm
  | some b =>
    have := h.ok n b hb
    have lt : ∀ {k' : Nat} {o : Obj}, w.heap[k']? = some o → k' < w.heap.size := fun h => (Array.getElem?_eq_some_iff.1 h).1
    cases b with
    | row g sz es =>
      obtain ⟨k', cs, T, fr, h1, h2, _⟩ := this
      rw [hk] at h1; injection h1 with h1; subst h1
      exact lt h2
    | tok g sz len room =>
      cases room with
      | true =>
        obtain ⟨k', cs, T, fr, h1, h2, _⟩ := this
        rw [hk] at h1; injection h1 with h1; subst h1
        exact lt h2
      | false => simp only [BlkOk] at this; rw [hk] at this; cases this

/-- What is said of a block lives on where the block does, and what is said of its values. -/
theorem BlkOk.keep {c c' : Cx} {w w' : World} {n : Nat} {b : Blk} (h : BlkOk c w n b) (hι : c'.ι n = c.ι n) (hcap : c'.cap n = c.cap n) (hheap : ∀ k, c.ι n = some k → w'.heap[k]? = w.heap[k]?)
    (hR : ∀ x v, R c x v → R c' x v) (hS : ∀ k o, c.ι n = some k → c.S k o = none → c'.S k o = none) : BlkOk c' w' n b := by
  cases b with
  | row g sz es =>
    obtain ⟨k, cs, T, fr, h1, h2, h3, h4, h5, h6, h7⟩ := h
    exact ⟨k, cs, T, fr, hι.trans h1, (hheap k h1).trans h2, h3, h4, h5, fun i x j y a b => let ⟨v, e1, e2⟩ := h6 i x j y a b; ⟨v, e1, hR _ _ e2⟩, fun o => hS k o h1 (h7 o)⟩
  | tok g sz len room =>
    cases room with
    | true =>
      obtain ⟨k, cs, T, fr, h1, h2, h3, h4, h5, h6⟩ := h
      exact ⟨k, cs, T, fr, hι.trans h1, (hheap k h1).trans h2, by rw [hcap]; exact h3, by rw [hcap]; exact h4, h5, fun o ho => hS k o h1 (h6 o ho)⟩
    | false => exact hι.trans h

theorem ngen_gt {m : Nat → Option Blk} {d : Nat} {b : Blk} (h : m d = some b) : b.gen < ngen m d := by simp [ngen, h]

/-- A name gets a new block, at the world's end: a row. -/
theorem new_row {c : Cx} {w w' : World} (hs : Sim c w) {cs : Array Value} {T : TypeId} {fr : Nat × Nat} (hg : Grew w w' cs T fr) (d : Nat) {g sz : Nat} {es : List V} (hgen : ∀ b, c.mem d = some b → b.gen < g)
    (h1 : es.length * sz ≤ cs.size) (h2 : ∀ x ∈ es, (leaves x).length = sz) (h3 : ∀ (i : Nat) (x : V) (j : Nat) (y : V), es[i]? = some x → (leaves x)[j]? = some y → ∃ v, cs[i * sz + j]? = some v ∧ R c y v) :
    ∃ c', QExt c w c' w' (some (d, .row g sz es)) ∧ c'.ι d = some w.heap.size ∧ c'.S = c.S := by
  let c' : Cx := { c with ι := fun n => if n = d then some w.heap.size else c.ι n, mem := mupd c.mem d (.row g sz es) }
  have hmono : Mono c c' := ⟨fun _ _ _ h => h, fun n => by
    by_cases hn : n = d
    · subst hn
      exact .of fun b hb => ⟨_, mupd_same _ _ _, .inl (hgen b hb)⟩
    · exact .same (mupd_other _ _ hn) (by simp [c', hn]) rfl⟩
  have hother : ∀ n, n ≠ d → c'.ι n = c.ι n := fun n hn => by simp [c', hn]
  have hmem : ∀ n, n ≠ d → c'.mem n = c.mem n := fun n hn => mupd_other _ _ hn
  have hd : c'.ι d = some w.heap.size := by simp [c']
  refine ⟨c', ⟨⟨hg.os, hg.tape, hg.output, by have := hg.size; omega, fun k hk _ => hg.old k hk, fun _ _ _ h => h, fun _ _ _ h => .inl h, ?_⟩, hmono, ⟨?_, ?_, ?_⟩, rfl⟩, hd, rfl⟩
  · rintro k ⟨n, hn, hk⟩
    by_cases hnd : n = d
    · subst hnd; rw [hd] at hk; injection hk with hk; omega
    · exact .inr ⟨n, by rw [← hmem n hnd]; exact hn, by rw [← hother n hnd]; exact hk⟩
  · intro b o v hv
    have hlt := hs.S_lt hv
    have := hs.stab b o v hv
    simp only [World.cell?] at this ⊢
    rw [hg.old b hlt]; exact this
  · intro n blk hb
    by_cases hnd : n = d
    · subst hnd
      have : blk = .row g sz es := by have := mupd_same c.mem n (.row g sz es); rw [show c'.mem n = _ from this] at hb; injection hb with hb; exact hb.symm
      subst this
      exact ⟨w.heap.size, cs, T, fr, hd, hg.new, h1, hg.loose, h2, fun i x j y a b => let ⟨v, e1, e2⟩ := h3 i x j y a b; ⟨v, e1, hmono.R e2⟩, fun o => hs.S_none (Nat.le_refl _) o⟩
    · rw [hmem n hnd] at hb
      refine (hs.ok n blk hb).keep (hother n hnd) rfl (fun k hk => ?_) (fun _ _ h => hmono.R h) (fun _ _ _ h => h)
      exact hg.old k (hs.ι_lt (by rw [hb]; simp) hk)
  · intro n n' k hn hn' hk hk'
    by_cases h1 : n = d <;> by_cases h2 : n' = d
    · rw [h1, h2]
    · subst h1
      rw [hd] at hk; injection hk with hk
      rw [hother n' h2] at hk'
      have := hs.ι_lt (by rw [← hmem n' h2]; exact hn') hk'
      omega
    · subst h2
      rw [hd] at hk'; injection hk' with hk'
      rw [hother n h1] at hk
      have := hs.ι_lt (by rw [← hmem n h1]; exact hn) hk
      omega
    · exact hs.inj n n' k (by rw [← hmem n h1]; exact hn) (by rw [← hmem n' h2]; exact hn') (by rw [← hother n h1]; exact hk) (by rw [← hother n' h2]; exact hk')

/-- A list in a block of its own, that nobody writes. -/
theorem new_list {c : Cx} {w w' : World} (hs : Sim c w) {cs : Array Value} {T : TypeId} {fr : Nat × Nat} (hg : Grew w w' cs T fr) {sz : Nat} {xs : List V} (cap : Nat) (hcap : xs.length ≤ cap)
    (h1 : xs.length * sz ≤ cs.size) (h2 : ∀ x ∈ xs, (leaves x).length = sz) (h3 : ∀ (i : Nat) (x : V) (j : Nat) (y : V), xs[i]? = some x → (leaves x)[j]? = some y → ∃ v, cs[i * sz + j]? = some v ∧ R c.bare y v) :
    ∃ c', QExt c w c' w' none ∧ R c' (.list sz xs) (.slice (some ⟨w.heap.size, 0, none⟩) xs.length cap) := by
  let c' : Cx := { c with S := fun b o => if b = w.heap.size then (if o < xs.length * sz then cs[o]? else none) else c.S b o }
  have hS : ∀ b o v, c.S b o = some v → c'.S b o = some v := fun b o v h => by
    have := hs.S_lt h
    simp [c', show b ≠ w.heap.size by omega, h]
  have hmono : Mono c c' := ⟨hS, fun n => .same rfl rfl rfl⟩
  have hS' : ∀ b o v, c'.S b o = some v → c.S b o = some v ∨ b = w.heap.size ∧ cs[o]? = some v := fun b o v h => by
    simp only [c'] at h
    split at h
    · rename_i hb
      split at h
      · exact .inr ⟨hb, h⟩
      · cases h
    · exact .inl h
  refine ⟨c', ⟨⟨hg.os, hg.tape, hg.output, by have := hg.size; omega, fun k hk _ => hg.old k hk, hS, fun b o v h => ?_, fun k h => .inr h⟩, hmono, ⟨?_, ?_, hs.inj⟩, rfl⟩, ?_⟩
  · rcases hS' b o v h with h | ⟨h, _⟩
    · exact .inl h
    · exact .inr (.inl (by omega))
  · intro b o v hv
    rcases hS' b o v hv with h | ⟨rfl, h⟩
    · have := hs.stab b o v h
      simp only [World.cell?] at this ⊢
      rw [hg.old b (hs.S_lt h)]; exact this
    · simp [World.cell?, hg.new, h]
  · intro n blk hb
    have hι : ∀ k, c.ι n = some k → k < w.heap.size := fun k hk => hs.ι_lt (by rw [show c.mem n = some blk from hb]; simp) hk
    refine (hs.ok n blk hb).keep rfl rfl (fun k hk => hg.old k (hι k hk)) (fun _ _ h => hmono.R h) (fun k o hk h => ?_)
    have := hι k hk
    simp [c', show k ≠ w.heap.size by omega, h]
  · have hlt : ∀ (i : Nat) (x : V) (j : Nat), xs[i]? = some x → j < sz → i * sz + j < xs.length * sz := fun i x j hi hj => by
      have := (List.getElem?_eq_some_iff.1 hi).1
      have : (i + 1) * sz ≤ xs.length * sz := Nat.mul_le_mul_right _ this
      rw [Nat.add_mul] at this
      omega
    refine .list sz xs _ cap w.heap.size 0 (fun i j => cs[i * sz + j]?.getD undef) (fun _ => rfl) hcap h2 (fun i x j hi hj => ?_) (fun i x j y hi hj => ?_)
    · have := hlt i x j hi hj
      simp only [c', if_true, Nat.zero_add, this]
      rw [Array.getElem?_eq_getElem (by omega)]
      rfl
    · obtain ⟨v, e1, e2⟩ := h3 i x j y hi hj
      rw [e1]
      exact hmono.Rb e2

/-- A list in a block of its own, with the right to append. -/
theorem new_gl {c : Cx} {w w' : World} (hs : Sim c w) {cs : Array Value} {T : TypeId} {fr : Nat × Nat} (hg : Grew w w' cs T fr) (d : Nat) {g sz : Nat} {xs : List V} (cap : Nat) (hcap : xs.length ≤ cap) (hgen : ∀ b, c.mem d = some b → b.gen < g)
    (h1 : cap * sz ≤ cs.size) (h2 : ∀ x ∈ xs, (leaves x).length = sz) (h3 : ∀ (i : Nat) (x : V) (j : Nat) (y : V), xs[i]? = some x → (leaves x)[j]? = some y → ∃ v, cs[i * sz + j]? = some v ∧ R c.bare y v) :
    ∃ c', QExt c w c' w' (some (d, .tok g sz xs.length true)) ∧ R c' (.gl d g sz xs) (.slice (some ⟨w.heap.size, 0, none⟩) xs.length cap) := by
  have hxc : xs.length * sz ≤ cs.size := Nat.le_trans (Nat.mul_le_mul_right _ hcap) h1
  let c' : Cx := { S := fun b o => if b = w.heap.size then (if o < xs.length * sz then cs[o]? else none) else c.S b o, ι := fun n => if n = d then some w.heap.size else c.ι n, cap := fun n => if n = d then cap else c.cap n, mem := mupd c.mem d (.tok g sz xs.length true) }
  have hS : ∀ b o v, c.S b o = some v → c'.S b o = some v := fun b o v h => by
    have := hs.S_lt h
    simp [c', show b ≠ w.heap.size by omega, h]
  have hother : ∀ n, n ≠ d → c'.ι n = c.ι n := fun n hn => by simp [c', hn]
  have hcapo : ∀ n, n ≠ d → c'.cap n = c.cap n := fun n hn => by simp [c', hn]
  have hmem : ∀ n, n ≠ d → c'.mem n = c.mem n := fun n hn => mupd_other _ _ hn
  have hd : c'.ι d = some w.heap.size := by simp [c']
  have hcd : c'.cap d = cap := by simp [c']
  have hmono : Mono c c' := ⟨hS, fun n => by
    by_cases hn : n = d
    · subst hn
      exact .of fun b hb => ⟨_, mupd_same _ _ _, .inl (hgen b hb)⟩
    · exact .same (hmem n hn) (hother n hn) (hcapo n hn)⟩
  have hS' : ∀ b o v, c'.S b o = some v → c.S b o = some v ∨ b = w.heap.size ∧ o < xs.length * sz ∧ cs[o]? = some v := fun b o v h => by
    simp only [c'] at h
    split at h
    · rename_i hb
      split at h
      · rename_i ho; exact .inr ⟨hb, ho, h⟩
      · cases h
    · exact .inl h
  have hSd : ∀ b o v, c'.S b o = some v → c.S b o = some v ∨ b = w.heap.size := fun b o v h => (hS' b o v h).imp_right (·.1)
  refine ⟨c', ⟨⟨hg.os, hg.tape, hg.output, by have := hg.size; omega, fun k hk _ => hg.old k hk, hS, fun b o v h => ?_, ?_⟩, hmono, ⟨?_, ?_, ?_⟩, rfl⟩, ?_⟩
  · rcases hSd b o v h with h | h
    · exact .inl h
    · exact .inr (.inl (by omega))
  · rintro k ⟨n, hn, hk⟩
    by_cases hnd : n = d
    · subst hnd; rw [hd] at hk; injection hk with hk; omega
    · exact .inr ⟨n, by rw [← hmem n hnd]; exact hn, by rw [← hother n hnd]; exact hk⟩
  · intro b o v hv
    rcases hS' b o v hv with h | ⟨rfl, _, h⟩
    · have := hs.stab b o v h
      simp only [World.cell?] at this ⊢
      rw [hg.old b (hs.S_lt h)]; exact this
    · simp [World.cell?, hg.new, h]
  · intro n blk hb
    by_cases hnd : n = d
    · subst hnd
      have : blk = .tok g sz xs.length true := by have := mupd_same c.mem n (.tok g sz xs.length true); rw [show c'.mem n = _ from this] at hb; injection hb with hb; exact hb.symm
      subst this
      refine ⟨w.heap.size, cs, T, fr, hd, hg.new, by rw [hcd]; exact hcap, by rw [hcd]; exact h1, hg.loose, fun o ho => ?_⟩
      simp [c', show ¬ o < xs.length * sz by omega]
    · rw [hmem n hnd] at hb
      have hι : ∀ k, c.ι n = some k → k < w.heap.size := fun k hk => hs.ι_lt (by rw [hb]; simp) hk
      refine (hs.ok n blk hb).keep (hother n hnd) (hcapo n hnd) (fun k hk => hg.old k (hι k hk)) (fun _ _ h => hmono.R h) (fun k o hk h => ?_)
      have := hι k hk
      simp [c', show k ≠ w.heap.size by omega, h]
  · intro n n' k hn hn' hk hk'
    by_cases h1 : n = d <;> by_cases h2 : n' = d
    · rw [h1, h2]
    · subst h1
      rw [hd] at hk; injection hk with hk
      rw [hother n' h2] at hk'
      have := hs.ι_lt (by rw [← hmem n' h2]; exact hn') hk'
      omega
    · subst h2
      rw [hd] at hk'; injection hk' with hk'
      rw [hother n h1] at hk
      have := hs.ι_lt (by rw [← hmem n h1]; exact hn) hk
      omega
    · exact hs.inj n n' k (by rw [← hmem n h1]; exact hn) (by rw [← hmem n' h2]; exact hn') (by rw [← hother n h1]; exact hk) (by rw [← hother n' h2]; exact hk')
  · have hlt : ∀ (i : Nat) (x : V) (j : Nat), xs[i]? = some x → j < sz → i * sz + j < xs.length * sz := fun i x j hi hj => by
      have := (List.getElem?_eq_some_iff.1 hi).1
      have : (i + 1) * sz ≤ xs.length * sz := Nat.mul_le_mul_right _ this
      rw [Nat.add_mul] at this
      omega
    refine .gl d g sz xs _ w.heap.size ?_ (mupd_same _ _ _) hd (by rw [hcd])
    refine .list sz xs _ cap w.heap.size 0 (fun i j => cs[i * sz + j]?.getD undef) (fun _ => rfl) hcap h2 (fun i x j hi hj => ?_) (fun i x j y hi hj => ?_)
    · have := hlt i x j hi hj
      simp only [c', if_true, Nat.zero_add, this]
      rw [Array.getElem?_eq_getElem (by omega)]
      rfl
    · obtain ⟨v, e1, e2⟩ := h3 i x j y hi hj
      rw [e1]
      exact hmono.Rb e2
end Go.Ab

/- Operations that make a block: variables, literals of slices, 'make', bytes of a string. -/
namespace Go.Ab

/-- A variable's block: an array of small elements is a row of its elements. -/
def boxBlk (ty : TypeId → TI) (T : TypeId) (g : Nat) (x : V) : Option (Prop × Blk) :=
  let plain : Option (Prop × Blk) := match Nat.beq (leaves x).length (ty T).size with | true => some (True, .row g (ty T).size [x]) | false => none
  match (ty T).td with
  | .unk => none
  | .arr _ e => match (ty e).td.isAgg, Nat.beq (ty e).size 1 with
    | false, true => some ((∀ y ∈ leaves x, leaves y = [y]), .row g 1 (leaves x))
    | _, _ => plain
  | _ => plain

def idxOk (P : V → Bool) (ρ : Operand → V) : Nat → List (Nat × Operand) → Bool
  | _, [] => true
  | k, (i, x) :: ps => match Nat.beq i k, P (ρ x) with | true, true => idxOk P ρ (k + 1) ps | _, _ => false

/-- What an operation that makes a block yields, and the block that the memory gets. 'mu': is it one that will be written? -/
def evA (ty : TypeId → TI) (mu : Nat → Md) (ρ : Operand → V) (m : Nat → Option Blk) (d : Nat) : Op → Option (Prop × V × Option Blk)
  | .alloc T => match boxBlk ty T (ngen m d) (ty T).zero with
    | some (_, b) => some (True, .ptr d (ngen m d) 0 0, some b)
    | none => none
  | .box T x => match plainV (ρ x), boxBlk ty T (ngen m d) (ρ x) with
    | true, some (p, b) => some (p, .ptr d (ngen m d) 0 0, some b)
    | _, _ => none
  | .buildSlice T len parts => match (ty T).td with
    | .slice e => match (ty e).td.isUnk, Nat.beq parts.toList.length len, Nat.ble (len * (ty e).size) 16777216, idxOk (fun x => plainV x && Nat.beq (leaves x).length (ty e).size) ρ 0 parts.toList with
      | false, true, true, true => match Nat.beq len 0, mu d with
        | true, _ => some (True, .esl, none)
        | false, .wide => some (True, .msl d (ngen m d) 0 len, some (.row (ngen m d) (ty e).size (parts.toList.map fun p => ρ p.2)))
        | false, .gl => some (True, .gl d (ngen m d) (ty e).size (parts.toList.map fun p => strip (ρ p.2)), some (.tok (ngen m d) (ty e).size len true))
        | false, .ls => some (True, .list (ty e).size (parts.toList.map fun p => strip (ρ p.2)), none)
      | _, _, _, _ => none
    | _ => none
  | .makeSlice T l c => match (ty T).td, ρ l, ρ c with
    | .slice e, .int _ n, .int _ n' => match (ty e).td.isUnk, Nat.beq (leaves (ty e).zero).length (ty e).size with
      | false, true => some (n = n' ∧ 0 ≤ n ∧ ((ty e).bytes : Int) * n ≤ 281474976710656 ∧ n ≤ 9223372036854775807, .msl d (ngen m d) 0 n.toNat, some (.row (ngen m d) (ty e).size (List.replicate n.toNat (ty e).zero)))
      | _, _ => none
    | _, _, _ => none
  | .convert src dst x => match (ty src).td, (ty dst).td, ρ x with
    | .str, .slice e, .str s => match (ty e).td, Nat.beq (ty e).size 1 with
      | .int .u8, true => match mu d with
        | .gl => some (True, .gl d (ngen m d) 1 (s.map encB), some (.tok (ngen m d) 1 s.length true))
        | .wide => some (True, .msl d (ngen m d) 0 s.length, some (.row (ngen m d) 1 (s.map encB)))
        | .ls => some (True, .list 1 (s.map encB), none)
      | _, _ => none
    | _, _, _ => none
  | _ => none

theorem cells_R {c : Cx} {x : V} {cs : Array Value} (hl : (leaves x).length = cs.size) (hr : ∀ (i : Nat) (y : V) (u : Value), (leaves x)[i]? = some y → cs[i]? = some u → R c y u) :
    (∀ (i : Nat) (z : V) (j : Nat) (y : V), [x][i]? = some z → (leaves z)[j]? = some y → ∃ v, cs[i * (leaves x).length + j]? = some v ∧ R c y v) ∧
    ((∀ y ∈ leaves x, leaves y = [y]) → ∀ (i : Nat) (z : V) (j : Nat) (y : V), (leaves x)[i]? = some z → (leaves z)[j]? = some y → ∃ v, cs[i * 1 + j]? = some v ∧ R c y v) := by
  refine ⟨fun i z j y h1 h2 => ?_, fun hp i z j y h1 h2 => ?_⟩
  · cases i with
    | succ i => simp at h1
    | zero =>
      simp at h1
      subst h1
      have hj : j < cs.size := by rw [← hl]; exact (List.getElem?_eq_some_iff.1 h2).1
      exact ⟨cs[j], by simp [hj], hr j y _ h2 (by simp [hj])⟩
  · rw [hp z (mem_of_at h1)] at h2
    cases j with
    | succ j => simp at h2
    | zero =>
      simp at h2
      subst h2
      have hi : i < cs.size := by rw [← hl]; exact (List.getElem?_eq_some_iff.1 h1).1
      exact ⟨cs[i], by simp [hi], hr i z _ h1 (by simp [hi])⟩

/-- What a new block of the memory's own gives. -/
theorem boxBlk_new {ty : TypeId → TI} {T : TypeId} {c : Cx} {w w' : World} (hs : Sim c w) {cs : Array Value} {T' : TypeId} {fr : Nat × Nat} (hg : Grew w w' cs T' fr) (d : Nat) {x : V} {p : Prop} {b : Blk} {g : Nat} (hgen : ∀ b, c.mem d = some b → b.gen < g)
    (hb : boxBlk ty T g x = some (p, b)) (hp : p) (hl : (leaves x).length = cs.size) (hr : ∀ (i : Nat) (y : V) (u : Value), (leaves x)[i]? = some y → cs[i]? = some u → R c y u) :
    ∃ c', QExt c w c' w' (some (d, b)) ∧ R c' (.ptr d g 0 0) (.pointer (some ⟨w.heap.size, 0, none⟩)) := by
  obtain ⟨r1, r2⟩ := cells_R hl hr
  have plain : (match Nat.beq (leaves x).length (ty T).size with | true => some (True, Blk.row g (ty T).size [x]) | false => none) = some (p, b) →
      ∃ c', QExt c w c' w' (some (d, b)) ∧ R c' (.ptr d g 0 0) (.pointer (some ⟨w.heap.size, 0, none⟩)) := by
    intro h
    split at h
    · rename_i hsz
      have hsz := Nat.eq_of_beq_eq_true hsz
      injection h with h
      injection h with _ h
      subst h
      rw [← hsz]
      obtain ⟨c', h1, h2, _⟩ := new_row hs hg d (g := g) (sz := (leaves x).length) (es := [x]) hgen (by simp [hl]) (by simp) r1
      refine ⟨c', h1, ?_⟩
      have := R.ptr (c := c') d g 0 0 (leaves x).length [x] w.heap.size (by rw [h1.mem]; exact mupd_same _ _ _) h2
      simpa using this
    · cases h
  unfold boxBlk at hb
  simp only at hb
  split at hb
  · cases hb
  · split at hb
    · injection hb with hb
      injection hb with e1 e2
      subst e1 e2
      obtain ⟨c', h1, h2, _⟩ := new_row hs hg d (g := g) (sz := 1) (es := leaves x) hgen (by omega) (fun y hy => by rw [hp y hy]; rfl) (r2 hp)
      refine ⟨c', h1, ?_⟩
      have := R.ptr (c := c') d g 0 0 1 (leaves x) w.heap.size (by rw [h1.mem]; exact mupd_same _ _ _) h2
      simpa using this
    · exact plain hb
  · exact plain hb

theorem idxOk_spec {P : V → Bool} {ρ : Operand → V} : ∀ (ps : List (Nat × Operand)) (k : Nat), idxOk P ρ k ps = true → ∀ (i : Nat) (p : Nat × Operand), ps[i]? = some p → p.1 = k + i ∧ P (ρ p.2) = true
  | [], _, _, i, p, h => by simp at h
  | (a, x) :: ps, k, h, i, p, hp => by
    simp only [idxOk] at h
    split at h
    · rename_i b1 b2
      cases i with
      | zero => simp at hp; subst hp; exact ⟨Nat.eq_of_beq_eq_true b1, b2⟩
      | succ i =>
        have := idxOk_spec ps (k + 1) h i p (by simpa using hp)
        exact ⟨by omega, this.2⟩
    · cases h

theorem flat_at {sz : Nat} : ∀ (xs : List V), (∀ x ∈ xs, (leaves x).length = sz) → ∀ (i : Nat) (x : V) (j : Nat) (y : V), xs[i]? = some x → (leaves x)[j]? = some y → (xs.flatMap leaves)[i * sz + j]? = some y
  | [], _, i, x, _, _, h, _ => by simp at h
  | a :: xs, hs, i, x, j, y, h, hy => by
    rw [List.flatMap_cons]
    have ha := hs a (by simp)
    cases i with
    | zero =>
      simp at h
      subst h
      rw [Nat.zero_mul, Nat.zero_add, List.getElem?_append_left (List.getElem?_eq_some_iff.1 hy).1]
      exact hy
    | succ i =>
      have := flat_at xs (fun x hx => hs x (by simp [hx])) i x j y (by simpa using h) hy
      rw [List.getElem?_append_right (by rw [ha, Nat.add_mul]; omega), ha, Nat.add_mul, show i * sz + 1 * sz + j - sz = i * sz + j by omega]
      exact this
theorem flat_length {sz : Nat} : ∀ (xs : List V), (∀ x ∈ xs, (leaves x).length = sz) → (xs.flatMap leaves).length = xs.length * sz
  | [], _ => by simp
  | a :: xs, hs => by
    rw [List.flatMap_cons, List.length_append, hs a (by simp), flat_length xs (fun x hx => hs x (by simp [hx])), List.length_cons, Nat.add_mul]
    omega

/-- A literal's parts, all of them in order: the cells are the parts' cells. -/
theorem fillV_all {sz : Nat} : ∀ (ps : List (Nat × V)) (pre : List V) (k : Nat), (∀ (i : Nat) (p : Nat × V), ps[i]? = some p → p.1 = k + i ∧ plainV p.2 = true ∧ (leaves p.2).length = sz) → pre.length = k * sz →
    fillV (fun i => some (i * sz, sz)) (pre ++ List.replicate (ps.length * sz) .any) ps = some (pre ++ (ps.map (·.2)).flatMap leaves)
  | [], pre, k, _, _ => by simp [fillV]
  | (a, x) :: ps, pre, k, h, hpre => by
    obtain ⟨h1, h2, h3⟩ := h 0 (a, x) rfl
    simp only at h1 h2 h3
    simp only [fillV, h2]
    have b1 : Nat.beq (leaves x).length sz = true := by rw [h3]; exact Nat.beq_refl sz
    have b2 : Nat.ble (a * sz + sz) (pre ++ List.replicate (((a, x) :: ps).length * sz) V.any).length = true := by
      apply Nat.ble_eq_true_of_le
      simp only [List.length_append, List.length_replicate, List.length_cons, hpre, h1, Nat.add_mul]
      omega
    rw [b1, b2]
    simp only
    have : putL (pre ++ List.replicate (((a, x) :: ps).length * sz) V.any) (a * sz) (leaves x) = (pre ++ leaves x) ++ List.replicate (ps.length * sz) V.any := by
      have ha : a * sz = pre.length := by rw [h1, hpre]; rfl
      unfold putL
      rw [ha, List.take_append_of_le_length (Nat.le_refl _), List.take_length, h3]
      congr 1
      rw [List.drop_append, List.drop_eq_nil_of_le (by omega), List.nil_append, List.drop_replicate]
      congr 1
      rw [List.length_cons, Nat.add_mul]
      omega
    rw [this, fillV_all ps (pre ++ leaves x) (k + 1) (fun i p hp => ?_) (by rw [List.length_append, hpre, h3, Nat.add_mul]; omega)]
    · simp
    · have := h (i + 1) p (by simpa using hp)
      exact ⟨by omega, this.2⟩

theorem run_zero {P : Program} {ty : TypeId → TI} (hty : ∀ t, TyOk P t (ty t)) {T : TypeId} (hn : (ty T).td ≠ .unk) (w : World) (c : Cx) :
    ∃ z, (zeroValue T).run P w = .ok z w ∧ constV z = (ty T).zero ∧ (leaves (ty T).zero).length = z.cells.size ∧ ∀ (i : Nat) (y : V) (u : Value), (leaves (ty T).zero)[i]? = some y → z.cells[i]? = some u → R c y u := by
  obtain ⟨i, z, h1, h2, h3, h4, h5⟩ := (hty T).info hn
  obtain ⟨zs, g1, g2, g3⟩ := cells_constV c z
  refine ⟨z, by simp [zeroValue, typeInfo, h1, h4], h5, ?_, ?_⟩
  · rw [← h5, g2, g1]; simp
  · rw [← h5, g1]; intro i y u a b; exact g3 i y u a (by simpa using b)

theorem leaves_zero {z : Value} {x : V} (h : constV z = x) : ∀ y ∈ leaves x, leaves y = [y] := by
  subst h
  intro y hy
  by_cases h : ∃ cs, z = .agg cs
  · obtain ⟨cs, rfl⟩ := h
    simp only [constV, leaves, List.mem_map] at hy
    obtain ⟨u, _, rfl⟩ := hy
    exact leaves_constL u
  · have h1 : constV z = constL z := by cases z <;> first | rfl | exact absurd ⟨_, rfl⟩ h
    rw [h1, leaves_constL] at hy
    simp at hy
    rw [hy]
    exact leaves_constL z

theorem boxBlk_pre {ty : TypeId → TI} {T : TypeId} {g : Nat} {x : V} {p : Prop} {b : Blk} (h : boxBlk ty T g x = some (p, b)) : (ty T).td ≠ .unk ∧ ((∀ y ∈ leaves x, leaves y = [y]) → p) := by
  have plain : (match Nat.beq (leaves x).length (ty T).size with | true => some (True, Blk.row g (ty T).size [x]) | false => none) = some (p, b) → p := by
    intro h
    split at h
    · injection h with h; injection h with h _; rw [← h]; trivial
    · cases h
  unfold boxBlk at h
  simp only at h
  split at h
  · cases h
  · rename_i htd
    refine ⟨by simp [htd], fun hp => ?_⟩
    split at h
    · injection h with h; injection h with h _; rw [← h]; exact hp
    · exact plain h
  · rename_i h1 h2
    exact ⟨fun e => h1 e, fun _ => plain h⟩

/-- **An operation that makes a block.** -/
theorem evA_sound {P : Program} {ty : TypeId → TI} (hty : ∀ t, TyOk P t (ty t)) {mu : Nat → Md} {ρ : Operand → V} {m : Nat → Option Blk} {e : Operand → Value} {o : Oper} {c : Cx} {w : World} {d : Nat}
    (he : ∀ x ∈ o.op.operands, R c (ρ x) (e x)) (hmd : m d = c.mem d) (hs : Sim c w) {p : Prop} {v : V} {N : Option Blk} (hd : evA ty mu ρ m d o.op = some (p, v, N)) (hp : p) :
    ∃ u w' c', (execOp e o).run P w = .ok (.value u) w' ∧ QExt c w c' w' (N.map fun b => (d, b)) ∧ R c' v u := by
  have hgen : ∀ b, c.mem d = some b → b.gen < ngen m d := fun b hb => ngen_gt (hmd.trans hb)
  have lift : ∀ {s : Sem Value}, (∃ u w' c', s.run P w = .ok u w' ∧ QExt c w c' w' (N.map fun b => (d, b)) ∧ R c' v u) →
      ∃ u w' c', ((do pure (Next.value (← s))) : Sem Next).run P w = .ok (.value u) w' ∧ QExt c w c' w' (N.map fun b => (d, b)) ∧ R c' v u := by
    rintro s ⟨u, w', c', h1, h2, h3⟩
    exact ⟨u, w', c', by simp [h1], h2, h3⟩
  cases hop : o.op with
  | alloc T =>
    simp only [hop, evA] at hd
    split at hd
    case h_2 => cases hd
    rename_i p' b hb
    injection hd with hd
    simp only [Prod.mk.injEq] at hd
    obtain ⟨_, rfl, rfl⟩ := hd
    obtain ⟨hn, hpz⟩ := boxBlk_pre hb
    obtain ⟨z, h1, h2, h3, h4⟩ := run_zero hty hn w c
    simp only [execOp, hop]
    refine lift ?_
    obtain ⟨c', g1, g2⟩ := boxBlk_new hs (Grew.alloc w z.cells T) d hgen hb (hpz (leaves_zero h2)) h3 h4
    exact ⟨_, _, c', by simp [Instr.alloc, h1, newVar, newRow], g1, g2⟩
  | box T x =>
    simp only [hop, evA] at hd
    split at hd
    case h_2 => cases hd
    rename_i p' b hpl hb
    injection hd with hd
    simp only [Prod.mk.injEq] at hd
    obtain ⟨rfl, rfl, rfl⟩ := hd
    obtain ⟨vs, h1, h2, h3⟩ := cells_of (he x (by simp [hop, Op.operands])) hpl
    simp only [execOp, hop]
    refine lift ?_
    obtain ⟨c', g1, g2⟩ := boxBlk_new hs (Grew.alloc w vs.toArray T) d hgen hb hp (by simpa using h2) (fun i y u a b => h3 i y u a (by simpa using b))
    exact ⟨_, _, c', by simp [Instr.box, newVar, newRow, h1], g1, g2⟩
  | buildSlice T len parts =>
    simp only [hop, evA] at hd
    split at hd
    case h_2 => cases hd
    rename_i el htd
    have hT := (hty T).slice htd
    split at hd
    case h_2 => cases hd
    rename_i hunk hlen hbig hidx
    have hn := TD.isUnk_false hunk
    have hlen := Nat.eq_of_beq_eq_true hlen
    have hbig := Nat.le_of_ble_eq_true hbig
    have hspec := idxOk_spec _ _ hidx
    obtain ⟨z, h1, h2, h3, h4⟩ := run_zero hty hn w c
    have hpart : ∀ (i : Nat) (q : Nat × Operand), parts.toList[i]? = some q → q.1 = i ∧ plainV (ρ q.2) = true ∧ (leaves (ρ q.2)).length = (ty el).size := by
      intro i q hq
      obtain ⟨a1, a2⟩ := hspec i q hq
      simp only [Bool.and_eq_true] at a2
      exact ⟨by omega, a2.1, Nat.eq_of_beq_eq_true a2.2⟩
    have hfill := fillV_all (sz := (ty el).size) (parts.toList.map fun q => (q.1, ρ q.2)) [] 0 (fun i q hq => by
      rw [List.getElem?_map] at hq
      obtain ⟨a, ha, rfl⟩ := Option.map_eq_some_iff.1 hq
      have := hpart i a ha
      exact ⟨by simp [this.1], this.2⟩) (by simp)
    simp only [List.nil_append, List.length_map, hlen, List.map_map] at hfill
    have hxs : (parts.toList.map ((fun x => x.2) ∘ fun q => (q.1, ρ q.2))) = parts.toList.map fun q => ρ q.2 := rfl
    rw [hxs] at hfill
    generalize hxsd : (parts.toList.map fun q => ρ q.2) = xs at *
    have hxl : xs.length = len := by rw [← hxsd]; simpa using hlen
    have hsz : ∀ x ∈ xs, (leaves x).length = (ty el).size := by
      intro x hx
      rw [← hxsd] at hx
      obtain ⟨q, hq, rfl⟩ := List.mem_map.1 hx
      obtain ⟨i, hi⟩ := List.getElem?_of_mem hq
      exact (hpart i q hi).2.2
    generalize hzc : (if len * (ty el).size = 0 then (#[] : Array Value) else z.cells) = zc
    obtain ⟨us, k1, k2, k3⟩ := fill_sound (c := c) (place := fun i => some (i * (ty el).size, (ty el).size)) (parts.toList.map fun q => (q.1, ρ q.2)) ((parts.map fun (i, x) => (i, e x)).toList) (by simp) (fun i p q g1 g2 => by
      rw [Array.toList_map, List.getElem?_map] at g2
      rw [List.getElem?_map] at g1
      obtain ⟨a, ha, rfl⟩ := Option.map_eq_some_iff.1 g1
      rw [ha] at g2
      injection g2 with g2
      subst g2
      exact ⟨rfl, he a.2 (by
        simp only [hop, Op.operands, List.mem_toArray, List.mem_map]
        exact ⟨a, mem_of_at ha, rfl⟩)⟩) (List.replicate (len * (ty el).size) .any) (((Array.range (len * (ty el).size)).map (zc[· % zc.size]!)).toList) (by simp)
      (fun i x v g1 g2 => by
        rw [List.getElem?_replicate] at g1
        split at g1
        · injection g1 with g1; subst g1; exact .any v
        · cases g1) _ hfill
    rw [Array.toArray_toList] at k1
    have hcells : ∀ (i : Nat) (x : V) (j : Nat) (y : V), xs[i]? = some x → (leaves x)[j]? = some y → ∃ v, us.toArray[i * (ty el).size + j]? = some v ∧ R c y v := by
      intro i x j y g1 g2
      have g3 := flat_at xs hsz i x j y g1 g2
      have hlt : i * (ty el).size + j < us.length := by rw [← k2]; exact (List.getElem?_eq_some_iff.1 g3).1
      exact ⟨us[i * (ty el).size + j], by simp [hlt], k3 _ y _ g3 (List.getElem?_eq_getElem hlt)⟩
    have hxs' : (parts.toList.map fun q => strip (ρ q.2)) = xs.map strip := by rw [← hxsd]; simp
    have hsz' : ∀ x ∈ xs.map strip, (leaves x).length = (ty el).size := fun x hx => by
      obtain ⟨y, hy, rfl⟩ := List.mem_map.1 hx
      rw [leaves_strip, List.length_map]
      exact hsz y hy
    have hcells' : ∀ (i : Nat) (x : V) (j : Nat) (y : V), (xs.map strip)[i]? = some x → (leaves x)[j]? = some y → ∃ v, us.toArray[i * (ty el).size + j]? = some v ∧ R c.bare y v := by
      intro i x j y g1 g2
      rw [List.getElem?_map] at g1
      obtain ⟨x, g3, rfl⟩ := Option.map_eq_some_iff.1 g1
      rw [leaves_strip, List.getElem?_map] at g2
      obtain ⟨y, g4, rfl⟩ := Option.map_eq_some_iff.1 g2
      obtain ⟨v, e1, e2⟩ := hcells i x j y g3 g4
      exact ⟨v, e1, e2.strip⟩
    rw [hxs'] at hd
    have husl : us.length = xs.length * (ty el).size := by rw [← k2, flat_length xs hsz]
    have hrun : (Instr.buildSlice T len (parts.map fun (i, x) => (i, e x))).run P w = .ok (.slice (some ⟨w.heap.size, 0, none⟩) len len) (w.alloc (.cells us.toArray el)) := by
      have hno : ¬ (len * (ty el).size > 2 ^ 24) := by omega
      by_cases h0 : len * (ty el).size = 0
      · rw [if_pos h0] at hzc
        subst hzc
        simp only [Instr.buildSlice, Sem.run_bind, run_underlying hT, Result.andThen_ok, (hty el).run_size hn, if_neg hno, if_pos h0, Sem.run_pure]
        rw [k1]
        simp [newRow]
      · rw [if_neg h0] at hzc
        subst hzc
        simp only [Instr.buildSlice, Sem.run_bind, run_underlying hT, Result.andThen_ok, (hty el).run_size hn, if_neg hno, if_neg h0, h1, Sem.run_pure]
        rw [k1]
        simp [newRow]
    simp only [execOp, hop]
    refine lift ?_
    rw [hrun]
    split at hd
    · rename_i hl0
      have := Nat.eq_of_beq_eq_true hl0
      injection hd with hd
      simp only [Prod.mk.injEq] at hd
      obtain ⟨_, rfl, rfl⟩ := hd
      obtain ⟨c', g1, g2⟩ := new_list hs (Grew.alloc w us.toArray el) (sz := (ty el).size) (xs := xs.map strip) len (by simp; omega) (by simp [husl]) hsz' hcells'
      refine ⟨_, _, c', rfl, g1, ?_⟩
      rw [this]
      exact .esl _
    · injection hd with hd
      simp only [Prod.mk.injEq] at hd
      obtain ⟨_, rfl, rfl⟩ := hd
      obtain ⟨c', g1, g2, g3⟩ := new_row hs (Grew.alloc w us.toArray el) d (g := ngen m d) (sz := (ty el).size) (es := xs) hgen (by simp [husl]) hsz hcells
      refine ⟨_, _, c', rfl, g1, ?_⟩
      refine .msl d _ 0 len (ty el).size xs w.heap.size _ len (by rw [g1.mem]; exact mupd_same _ _ _) g2 (by omega) (by omega) (fun _ => by simp)
    · injection hd with hd
      simp only [Prod.mk.injEq] at hd
      obtain ⟨_, rfl, rfl⟩ := hd
      obtain ⟨c', g1, g2⟩ := new_gl hs (Grew.alloc w us.toArray el) d (g := ngen m d) (sz := (ty el).size) (xs := xs.map strip) len (by simp; omega) hgen (by simp [husl, hxl]) hsz' hcells'
      rw [List.length_map, hxl] at g1 g2
      exact ⟨_, _, c', rfl, g1, g2⟩
    · injection hd with hd
      simp only [Prod.mk.injEq] at hd
      obtain ⟨_, rfl, rfl⟩ := hd
      obtain ⟨c', g1, g2⟩ := new_list hs (Grew.alloc w us.toArray el) (sz := (ty el).size) (xs := xs.map strip) len (by simp; omega) (by simp [husl]) hsz' hcells'
      rw [List.length_map, hxl] at g2
      exact ⟨_, _, c', rfl, g1, g2⟩
  | makeSlice T l cc =>
    simp only [hop, evA] at hd
    split at hd
    case h_2 => cases hd
    rename_i el k n k' n' htd hl hcv
    have hT := (hty T).slice htd
    split at hd
    case h_2 => cases hd
    rename_i hunk hlen
    have hn := TD.isUnk_false hunk
    have hlen := Nat.eq_of_beq_eq_true hlen
    injection hd with hd
    simp only [Prod.mk.injEq] at hd
    obtain ⟨rfl, rfl, rfl⟩ := hd
    obtain ⟨rfl, p1, p2, p3⟩ := hp
    have e1 := he l (by simp [hop, Op.operands])
    have e2 := he cc (by simp [hop, Op.operands])
    rw [hl] at e1
    rw [hcv] at e2
    obtain ⟨i, z, i1, i2, i3, i4, i5⟩ := (hty el).info hn
    have hrun := run_make (P := P) w T el i z hT i1 i4 k k' n n p1 (Int.le_refl _) (by rw [i3]; exact p2) p3
    simp only [execOp, hop]
    refine lift ?_
    generalize e l = l' at e1
    generalize e cc = cc' at e2
    cases e1; cases e2
    rw [hrun]
    obtain ⟨zs, g1, g2, g3⟩ := cells_constV c z
    rw [i5] at g2 g3
    have hzs : zs.length = (ty el).size := by rw [← g2, hlen]
    have hval : ∀ (j : Nat), j < n.toNat * i.size → (madeCells z.cells (n.toNat * i.size))[j]? = some (zs[j % zs.length]?.getD undef) := by
      intro j hj
      have hpos : 0 < (ty el).size := by
        rw [i2] at hj
        rcases Nat.eq_zero_or_pos (ty el).size with h | h
        · rw [h] at hj; omega
        · exact h
      have : j % zs.length < zs.length := Nat.mod_lt _ (by omega)
      simp [madeCells, g1, hj, this]
    obtain ⟨c', q1, q2, q3⟩ := new_row hs (Grew.alloc w (madeCells z.cells (n.toNat * i.size)) el) d (g := ngen m d) (sz := (ty el).size) (es := List.replicate n.toNat (ty el).zero) hgen
      (by simp [size_madeCells, i2]) (fun x hx => by rw [List.eq_of_mem_replicate hx]; exact hlen) (fun a x j y hx hy => by
        rw [List.getElem?_replicate] at hx
        split at hx
        case isFalse => cases hx
        rename_i ha
        injection hx with hx
        subst hx
        have hj : j < (ty el).size := by rw [← hlen]; exact (List.getElem?_eq_some_iff.1 hy).1
        have hlt : a * (ty el).size + j < n.toNat * i.size := by
          rw [i2]
          have := Nat.mul_le_mul_right (ty el).size (show a + 1 ≤ n.toNat from ha)
          rw [Nat.add_mul] at this
          omega
        refine ⟨_, hval _ hlt, ?_⟩
        have hm : (a * (ty el).size + j) % zs.length = j := by
          rw [hzs, Nat.mul_comm, Nat.mul_add_mod, Nat.mod_eq_of_lt hj]
        rw [hm]
        have : j < zs.length := by omega
        rw [List.getElem?_eq_getElem this]
        exact g3 j y _ hy (List.getElem?_eq_getElem this))
    refine ⟨_, _, c', rfl, q1, ?_⟩
    refine .msl d _ 0 n.toNat (ty el).size _ w.heap.size _ n.toNat (by rw [q1.mem]; exact mupd_same _ _ _) q2 (by simp) (by simp) (fun _ => by simp)
  | convert src dst x =>
    simp only [hop, evA] at hd
    split at hd
    case h_2 => cases hd
    rename_i el s htd1 htd2 hx
    have h1 := (hty src).str htd1
    have h2 := (hty dst).slice htd2
    split at hd
    case h_2 => cases hd
    rename_i htd3 hsz
    have h3 := (hty el).int htd3
    have e1 := he x (by simp [hop, Op.operands])
    rw [hx] at e1
    simp only [execOp, hop]
    refine lift ?_
    generalize e x = ex at e1
    cases e1
    rw [Lib.run_convert_string_bytes w src dst el _ h1 h2 h3]
    have hcs : ∀ j, j < s.length → (Lib.bytesCells w el ⟨s.toArray⟩)[j]? = some (.int .u8 ((s[j]?.getD 0).toNat : Int)) := by
      intro j hj
      simp [Lib.bytesCells, Array.getElem?_append, hj]
    have hge : s.length ≤ (Lib.bytesCells w el ⟨s.toArray⟩).size := by simp [Lib.bytesCells, ByteArray.size]
    have hgr : Grew w (Lib.bytesWorld w el ⟨s.toArray⟩) (Lib.bytesCells w el ⟨s.toArray⟩) el ((Lib.bytesCells w el ⟨s.toArray⟩).size, (Lib.bytesCells w el ⟨s.toArray⟩).size + 1) :=
      ⟨by simp [Lib.bytesWorld, World.freeze, World.alloc, World.drew, -World.alloc_eq, -World.drew_eq], by simp [Lib.bytesWorld, World.freeze, World.alloc, World.drew, -World.alloc_eq, -World.drew_eq], by simp [Lib.bytesWorld, World.freeze, World.alloc, World.drew, -World.alloc_eq, -World.drew_eq], Lib.bytesWorld_size _ _ _, fun k hk => Lib.bytesWorld_at_old _ _ _ k hk, Lib.bytesWorld_at_new _ _ _, fun o ho h => by omega⟩
    have hleaf : ∀ x ∈ s.map encB, (leaves x).length = 1 := by
      intro x hx; obtain ⟨b, _, rfl⟩ := List.mem_map.1 hx; rfl
    have hcells : ∀ (i : Nat) (x : V) (j : Nat) (y : V), (s.map encB)[i]? = some x → (leaves x)[j]? = some y → ∃ v, (Lib.bytesCells w el ⟨s.toArray⟩)[i * 1 + j]? = some v ∧ R c.bare y v := by
      intro i x j y a b
      rw [List.getElem?_map] at a
      obtain ⟨q, hq, rfl⟩ := Option.map_eq_some_iff.1 a
      cases j with
      | succ j => simp [leaves, encB] at b
      | zero =>
        simp [leaves, encB] at b
        subst b
        have := (List.getElem?_eq_some_iff.1 hq).1
        refine ⟨_, by rw [Nat.mul_one, Nat.add_zero]; exact hcs i this, ?_⟩
        rw [hq]
        exact .int _ _
    have hgc : s.length ≤ grownCap w s.length 0 el := grownCap_ge w _ _ _
    split at hd
    · injection hd with hd
      simp only [Prod.mk.injEq] at hd
      obtain ⟨_, rfl, rfl⟩ := hd
      obtain ⟨c', q1, q2⟩ := new_gl hs hgr d (g := ngen m d) (sz := 1) (xs := s.map encB) (grownCap w s.length 0 el) (by simpa using hgc) hgen (by simp [Lib.bytesCells, ByteArray.size]; omega) hleaf hcells
      refine ⟨_, _, c', rfl, by simpa using q1, ?_⟩
      simpa [ByteArray.size] using q2
    · injection hd with hd
      simp only [Prod.mk.injEq] at hd
      obtain ⟨_, rfl, rfl⟩ := hd
      obtain ⟨c', q1, q2, q3⟩ := new_row hs hgr d (g := ngen m d) (sz := 1) (es := s.map encB) hgen (by simpa using hge) hleaf (fun i x j y a b => let ⟨v, e1, e2⟩ := hcells i x j y a b; ⟨v, e1, e2.of_bare⟩)
      refine ⟨_, _, c', rfl, q1, ?_⟩
      have := R.msl (c := c') d (ngen m d) 0 s.length 1 (s.map encB) w.heap.size (some ⟨w.heap.size, 0, none⟩) (grownCap w s.length 0 el) (by rw [q1.mem]; exact mupd_same _ _ _) q2 (by simp) (by simpa using hgc) (fun _ => by simp)
      simpa [ByteArray.size] using this
    · injection hd with hd
      simp only [Prod.mk.injEq] at hd
      obtain ⟨_, rfl, rfl⟩ := hd
      obtain ⟨c', q1, q2⟩ := new_list hs hgr (sz := 1) (xs := s.map encB) (grownCap w s.length 0 el) (by simpa using hgc) (by simpa using hge) hleaf hcells
      refine ⟨_, _, c', rfl, q1, ?_⟩
      simpa [ByteArray.size] using q2
  | _ => simp only [hop, evA] at hd; cases hd
end Go.Ab
