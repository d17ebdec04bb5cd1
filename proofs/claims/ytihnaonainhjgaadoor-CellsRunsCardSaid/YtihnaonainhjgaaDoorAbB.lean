/- Writes into a block: the machine's, and what they do to what is said of the world. -/
import Derived.Test.YtihnaonainhjgaaDoorAbA
import Derived.Laws.CopyRow
import Derived.Laws.AppendOwn
set_option linter.unusedVariables false
set_option linter.unusedSimpArgs false
namespace Go.Ab

structure Put (w w' : World) (k o : Nat) (vs : List Value) (cs : Array Value) (T : TypeId) (fr : Nat × Nat) : Prop where
  os : w'.os = w.os
  tape : w'.tape = w.tape
  output : w'.output = w.output
  size : w'.heap.size = w.heap.size
  old : ∀ j, j ≠ k → w'.heap[j]? = w.heap[j]?
  new : ∃ cs', w'.heap[k]? = some (.cells cs' T fr) ∧ cs'.size = cs.size ∧ ∀ j, cs'[j]? = if o ≤ j ∧ j < o + vs.length then vs[j - o]? else cs[j]?

theorem setCell_heap (w : World) (k o : Nat) (v : Value) (j : Nat) : (w.setCell ⟨k, o, none⟩ v).heap[j]? = if j = k then (w.heap[k]?.map fun
      | .cells c e f => .cells (c.setIfInBounds o v) e f
      | x => x) else w.heap[j]? := by
  simp only [World.setCell, Array.getElem?_modify, Option.isSome_none, Bool.false_eq_true, if_false]
  by_cases h : j = k
  · subst h; simp; rfl
  · simp [h, Ne.symm h]

theorem run_put {P : Program} {k : Nat} {T : TypeId} {fr : Nat × Nat} : ∀ (vs : List Value) (o i : Nat) (cs : Array Value) (w : World), w.heap[k]? = some (.cells cs T fr) → Loose cs fr → o + i + vs.length ≤ cs.size → (∀ v ∈ vs, v.oneCell' = true) →
    ∃ w', (storeCells ⟨k, o, none⟩ vs i).run P w = .ok () w' ∧ Put w w' k (o + i) vs cs T fr
  | [], o, i, cs, w, hk, _, _, _ => ⟨w, rfl, rfl, rfl, rfl, rfl, fun _ _ => rfl, cs, hk, rfl, fun j => by
      rw [if_neg]; intro h; simp at h; omega⟩
  | v :: vs, o, i, cs, w, hk, hl, hs, h1 => by
    simp only [List.length_cons] at hs
    have hi : o + i < cs.size := by omega
    have hcell : w.cell? ⟨k, o + i, none⟩ = some cs[o + i] := by simp [World.cell?, hk, hi]
    have hfro : w.frozen? ⟨k, o + i, none⟩ = false := by
      have := hl (o + i) hi
      cases hb : w.frozen? ⟨k, o + i, none⟩ with
      | false => rfl
      | true =>
        simp only [World.frozen?, hk, Bool.and_eq_true, decide_eq_true_eq] at hb
        exact absurd hb this
    have hst : (store ((⟨k, o, none⟩ : Addr).add i) v).run P w = .ok () (w.setCell ⟨k, o + i, none⟩ v) := by
      rw [add_none, run_store P w _ v _ (h1 v (by simp)), hcell]
      simp [hfro]
    have hk' : (w.setCell ⟨k, o + i, none⟩ v).heap[k]? = some (.cells (cs.setIfInBounds (o + i) v) T fr) := by
      rw [setCell_heap, if_pos rfl, hk]; rfl
    obtain ⟨w', e1, e2⟩ := run_put (P := P) vs o (i + 1) (cs.setIfInBounds (o + i) v) (w.setCell ⟨k, o + i, none⟩ v) hk' (fun j hj => hl j (by simpa using hj)) (by simp; omega) (fun x hx => h1 x (by simp [hx]))
    refine ⟨w', by simp only [storeCells, Sem.run_bind, hst, Result.andThen_ok, e1], e2.os, e2.tape, e2.output, by rw [e2.size]; simp [World.setCell], fun j hj => ?_, ?_⟩
    · rw [e2.old j hj, setCell_heap, if_neg hj]
    · obtain ⟨cs', f1, f2, f3⟩ := e2.new
      refine ⟨cs', f1, by rw [f2]; simp, fun j => ?_⟩
      rw [f3 j]
      by_cases ha : o + (i + 1) ≤ j ∧ j < o + (i + 1) + vs.length
      · rw [if_pos ha, if_pos ⟨by omega, by simp; omega⟩, show j - (o + i) = (j - (o + (i + 1))) + 1 by omega, List.getElem?_cons_succ]
      · rw [if_neg ha]
        by_cases hb : j = o + i
        · subst hb
          rw [if_pos ⟨Nat.le_refl _, by simp⟩, Nat.sub_self]
          simp [hi]
        · rw [if_neg (by simp; omega), Array.getElem?_setIfInBounds, if_neg (by omega)]

/-- A leaf that is one cell for sure. -/
def cellV : V → Bool
  | .any => false
  | .lit (.pointer _) => true
  | .lit _ => false
  | .tup _ => false
  | .agg _ => false
  | _ => true
theorem cellV_one {c : Cx} {x : V} {v : Value} (h : R c x v) (hx : cellV x = true) : v.oneCell' = true := by
  induction h with
  | glx n g sz xs v b h hm hg ih => exact ih rfl
  | gl n g sz xs v k h hm hk hv ih => exact ih rfl
  | any => cases hx
  | lit v =>
    cases v <;> first
      | rfl
      | cases hx
  | tup => cases hx
  | agg => cases hx
  | _ => rfl

/-- What an operation that writes does: of the memory only one name's block turns. -/
structure EExt (c : Cx) (w : World) (c' : Cx) (w' : World) (m' : Nat → Option Blk) : Prop where
  ext : Ext c w c' w'
  mono : Mono c c'
  sim : Sim c' w'
  mem : c'.mem = m'
  was : ∀ n, 1000 ≤ n → c'.mem n ≠ none → c.mem n ≠ none

/-- A row's elements are written. -/
theorem put_row {c : Cx} {w w' : World} (hs : Sim c w) {n g sz : Nat} {es es' : List V} (hm : c.mem n = some (.row g sz es)) {k : Nat} (hk : c.ι n = some k) {o : Nat} {vs : List Value} {cs : Array Value} {T : TypeId} {fr : Nat × Nat}
    (hheap : w.heap[k]? = some (.cells cs T fr)) (hp : Put w w' k o vs cs T fr) (hl : es'.length = es.length) (h2 : ∀ x ∈ es', (leaves x).length = sz)
    (h3 : ∀ (i : Nat) (x : V) (j : Nat) (y : V), es'[i]? = some x → (leaves x)[j]? = some y →
      ∃ v, (if o ≤ i * sz + j ∧ i * sz + j < o + vs.length then vs[i * sz + j - o]? else cs[i * sz + j]?) = some v ∧ R c y v) :
    ∃ c', EExt c w c' w' (mupd c.mem n (.row g sz es')) ∧ c'.ι = c.ι ∧ c'.S = c.S := by
  have hown : Owns c k := ⟨n, by rw [hm]; simp, hk⟩
  obtain ⟨k0, cs0, T0, fr0, a1, a2, a3, a4, a5, a6, a7⟩ := hs.ok n _ hm
  rw [hk] at a1; injection a1 with a1; subst a1
  rw [hheap] at a2; injection a2 with a2; injection a2 with a2 a2' a2''; subst a2 a2' a2''
  obtain ⟨cs', b1, b2, b3⟩ := hp.new
  let c' : Cx := { c with mem := mupd c.mem n (.row g sz es') }
  have hmem : ∀ i, i ≠ n → c'.mem i = c.mem i := fun i hi => mupd_other _ _ hi
  have hmn : c'.mem n = some (.row g sz es') := mupd_same _ _ _
  have hne : ∀ i, c'.mem i ≠ none ↔ c.mem i ≠ none := fun i => by
    by_cases h : i = n
    · subst h; rw [hmn, hm]; simp
    · rw [hmem i h]
  have hmono : Mono c c' := ⟨fun _ _ _ h => h, fun i => by
    by_cases h : i = n
    · subst h
      exact .of fun b hb => ⟨_, hmn, by rw [hm] at hb; injection hb with hb; subst hb; exact .inr ⟨rfl, rfl, es', rfl, hl⟩⟩
    · exact .same (hmem i h) rfl rfl⟩
  refine ⟨c', ⟨⟨hp.os, hp.tape, hp.output, Nat.le_of_eq hp.size.symm, fun j hj ho => hp.old j fun e => ho (e ▸ hown), fun _ _ _ h => h, fun _ _ _ h => .inl h, ?_⟩, hmono, ⟨?_, ?_, ?_⟩, rfl, fun i _ h => (hne i).1 h⟩, rfl, rfl⟩
  · rintro j ⟨i, hi, hj⟩
    exact .inr ⟨i, (hne i).1 hi, hj⟩
  · intro b o' v hv
    have hb : b ≠ k := fun e => by subst e; rw [show c'.S b o' = c.S b o' from rfl, a7] at hv; cases hv
    have := hs.stab b o' v hv
    simp only [World.cell?] at this ⊢
    rw [hp.old b hb]; exact this
  · intro i blk hb
    by_cases h : i = n
    · subst h
      rw [hmn] at hb; injection hb with hb; subst hb
      refine ⟨k, cs', T, fr, hk, b1, by rw [hl, b2]; exact a3, fun o ho => a4 o (by omega), h2, fun i x j y hx hy => ?_, a7⟩
      obtain ⟨v, e1, e2⟩ := h3 i x j y hx hy
      exact ⟨v, by rw [b3]; exact e1, hmono.R e2⟩
    · rw [hmem i h] at hb
      refine (hs.ok i blk hb).keep rfl rfl (fun j hj => hp.old j fun e => ?_) (fun _ _ h => hmono.R h) (fun _ _ _ h => h)
      subst e
      exact h (hs.inj i n j (by rw [hb]; simp) (by rw [hm]; simp) hj hk)
  · intro i i' j hi hi' h1 h2
    exact hs.inj i i' j ((hne i).1 hi) ((hne i').1 hi') h1 h2

/-- A list's right to append is used in its own room. -/
theorem put_gl {c : Cx} {w w' : World} (hs : Sim c w) {n g sz len : Nat} (hm : c.mem n = some (.tok g sz len true)) {k : Nat} (hk : c.ι n = some k) {vs : List Value} {cs : Array Value} {T : TypeId} {fr : Nat × Nat}
    (hheap : w.heap[k]? = some (.cells cs T fr)) (hp : Put w w' k (len * sz) vs cs T fr) {xs ys : List V} (hx : R c (.list sz xs) (.slice (some ⟨k, 0, none⟩) xs.length (c.cap n))) (hlen : xs.length = len) (hcap : len + ys.length ≤ c.cap n)
    (hvs : vs.length = ys.length * sz) (h2 : ∀ x ∈ ys, (leaves x).length = sz) (h3 : ∀ (i : Nat) (x : V) (j : Nat) (y : V), ys[i]? = some x → (leaves x)[j]? = some y → ∃ v, vs[i * sz + j]? = some v ∧ R c.bare y v) :
    ∃ c', EExt c w c' w' (mupd c.mem n (.tok (g + 1) sz (xs ++ ys).length true)) ∧ R c' (.gl n (g + 1) sz (xs ++ ys)) (.slice (some ⟨k, 0, none⟩) (xs ++ ys).length (c.cap n)) := by
  have hown : Owns c k := ⟨n, by rw [hm]; simp, hk⟩
  obtain ⟨k0, cs0, T0, fr0, a1, a2, a3, a4, a5, a6⟩ := hs.ok n _ hm
  rw [hk] at a1; injection a1 with a1; subst a1
  rw [hheap] at a2; injection a2 with a2; injection a2 with a2 a2' a2''; subst a2 a2' a2''
  obtain ⟨cs', b1, b2, b3⟩ := hp.new
  have hmul : (len + ys.length) * sz = len * sz + vs.length := by rw [Nat.add_mul, hvs]
  let c' : Cx := { c with S := fun b o => if b = k ∧ len * sz ≤ o ∧ o < len * sz + vs.length then vs[o - len * sz]? else c.S b o, mem := mupd c.mem n (.tok (g + 1) sz (xs ++ ys).length true) }
  have hmem : ∀ i, i ≠ n → c'.mem i = c.mem i := fun i hi => mupd_other _ _ hi
  have hmn : c'.mem n = some (.tok (g + 1) sz (xs ++ ys).length true) := mupd_same _ _ _
  have hne : ∀ i, c'.mem i ≠ none ↔ c.mem i ≠ none := fun i => by
    by_cases h : i = n
    · subst h; rw [hmn, hm]; simp
    · rw [hmem i h]
  have hS : ∀ b o v, c.S b o = some v → c'.S b o = some v := fun b o v h => by
    simp only [c']
    rw [if_neg]
    · exact h
    · rintro ⟨rfl, h1, h2⟩
      rw [a6 o h1] at h; cases h
  have hmono : Mono c c' := ⟨hS, fun i => by
    by_cases h : i = n
    · subst h
      exact .of fun b hb => ⟨_, hmn, by rw [hm] at hb; injection hb with hb; subst hb; exact .inl (Nat.lt_succ_self g)⟩
    · exact .same (hmem i h) rfl rfl⟩
  have hS' : ∀ b o v, c'.S b o = some v → (c.S b o = some v ∧ ¬ (b = k ∧ len * sz ≤ o)) ∨ b = k ∧ len * sz ≤ o ∧ o < len * sz + vs.length ∧ vs[o - len * sz]? = some v := fun b o v h => by
    simp only [c'] at h
    split at h
    · rename_i hc; exact .inr ⟨hc.1, hc.2.1, hc.2.2, h⟩
    · refine .inl ⟨h, ?_⟩
      rintro ⟨rfl, h1⟩
      rw [a6 o h1] at h; cases h
  refine ⟨c', ⟨⟨hp.os, hp.tape, hp.output, Nat.le_of_eq hp.size.symm, fun j hj ho => hp.old j fun e => ho (e ▸ hown), hS, fun b o v h => ?_, ?_⟩, hmono, ⟨?_, ?_, ?_⟩, rfl, fun i _ h => (hne i).1 h⟩, ?_⟩
  · rcases hS' b o v h with h | h
    · exact .inl h.1
    · exact .inr (.inr (h.1 ▸ hown))
  · rintro j ⟨i, hi, hj⟩
    exact .inr ⟨i, (hne i).1 hi, hj⟩
  · intro b o v hv
    rcases hS' b o v hv with ⟨h, hno⟩ | ⟨rfl, h1, h2, h⟩
    · have := hs.stab b o v h
      by_cases hb : b = k
      · subst hb
        simp only [World.cell?, hheap, b1] at this ⊢
        rw [show cs'[o]? = cs[o]? by rw [b3, if_neg]; intro h; exact hno ⟨rfl, h.1⟩]
        exact this
      · simp only [World.cell?] at this ⊢
        rw [hp.old b hb]; exact this
    · simp only [World.cell?, b1]
      have : cs'[o]? = some v := by rw [b3, if_pos ⟨h1, h2⟩]; exact h
      simp [this]
  · intro i blk hb
    by_cases h : i = n
    · subst h
      rw [hmn] at hb; injection hb with hb; subst hb
      refine ⟨k, cs', T, fr, hk, b1, by simpa [hlen] using hcap, by rw [b2]; exact a4, fun o ho => a5 o (by omega), fun o ho => ?_⟩
      have ho : len * sz + vs.length ≤ o := by rw [List.length_append, hlen] at ho; omega
      simp only [c']
      rw [if_neg (by omega)]
      exact a6 o (by omega)
    · rw [hmem i h] at hb
      have hkk : ∀ j, c.ι i = some j → j ≠ k := fun j hj e => by
        subst e
        exact h (hs.inj i n j (by rw [hb]; simp) (by rw [hm]; simp) hj hk)
      refine (hs.ok i blk hb).keep rfl rfl (fun j hj => hp.old j (hkk j hj)) (fun _ _ h => hmono.R h) (fun j o hj h => ?_)
      simp only [c']
      rw [if_neg (fun e => hkk j hj e.1)]
      exact h
  · intro i i' j hi hi' h1 h2
    exact hs.inj i i' j ((hne i).1 hi) ((hne i').1 hi') h1 h2
  · refine .gl n (g + 1) sz (xs ++ ys) _ k ?_ hmn hk rfl
    cases hx with
    | list _ _ _ _ b o f hA hcap' hl hSx hr =>
      have hbo : xs ≠ [] → b = k ∧ o = 0 := fun h => by
        have := hA h
        injection this with this
        injection this with e1 e2
        exact ⟨e1.symm, e2.symm⟩
      have hpos : ∀ {i : Nat} {x : V}, xs[i]? = some x → b = k ∧ o = 0 := fun h => hbo (by intro e; rw [e] at h; simp at h)
      refine .list sz (xs ++ ys) _ (c.cap n) k 0 (fun i j => if i < len then f i j else vs[(i - len) * sz + j]?.getD undef) (fun _ => rfl) (by simpa [hlen] using hcap) (fun x hx => ?_) (fun i x j hi hj => ?_) (fun i x j y hi hj => ?_)
      · rcases List.mem_append.1 hx with h | h
        · exact hl x h
        · exact h2 x h
      · by_cases hil : i < len
        · rw [List.getElem?_append_left (by omega)] at hi
          obtain ⟨rfl, rfl⟩ := hpos hi
          have := hS _ _ _ (hSx i x j hi hj)
          simp only [hil, if_true]
          exact this
        · rw [List.getElem?_append_right (by omega), hlen] at hi
          have hlt := (List.getElem?_eq_some_iff.1 hi).1
          have e1 : i * sz + j = len * sz + ((i - len) * sz + j) := by
            rw [Nat.sub_mul]
            have := Nat.mul_le_mul_right sz (show len ≤ i by omega)
            omega
          have e2 : (i - len) * sz + j < vs.length := by
            have := Nat.mul_le_mul_right sz (show (i - len) + 1 ≤ ys.length from hlt)
            rw [Nat.add_mul] at this
            omega
          simp only [hil, if_false, c', Nat.zero_add]
          rw [if_pos ⟨trivial, by omega, by omega⟩, e1, Nat.add_sub_cancel_left, List.getElem?_eq_getElem e2]
          rfl
      · by_cases hil : i < len
        · rw [List.getElem?_append_left (by omega)] at hi
          simp only [hil, if_true]
          exact hmono.Rb (hr i x j y hi hj)
        · rw [List.getElem?_append_right (by omega), hlen] at hi
          simp only [hil, if_false]
          obtain ⟨v, e1, e2⟩ := h3 _ _ _ _ hi hj
          rw [e1]
          exact hmono.Rb e2
end Go.Ab

/- Stores and appends. -/
namespace Go.Ab

def putE (j : Nat) (x e : V) : Option V :=
  match e with
  | .agg ls => match Nat.ble (j + (leaves x).length) ls.length with
    | true => some (.agg (putL ls j (leaves x)))
    | false => none
  | _ => match Nat.beq j 0, Nat.beq (leaves x).length 1 with
    | true, true => some x
    | _, _ => none

def setN : List V → Nat → V → List V
  | [], _, _ => []
  | x :: xs, n, v => match Nat.beq n 0 with | true => v :: xs | false => x :: setN xs (n - 1) v
theorem setN_eq (xs : List V) (n : Nat) (v : V) : setN xs n v = xs.set n v := by
  induction xs generalizing n with
  | nil => simp [setN]
  | cons x xs ih =>
    cases n with
    | zero => simp [setN]
    | succ n => simp [setN, ih, Nat.beq]

/-- What a write does to the memory: under an obligation; or by what an element was. -/
inductive SR where
  | ok (p : Prop) (n : Nat) (b : Blk)
  | put (n : Nat) (b : Blk)
  | box (n g sz : Nat) (e : V)
  | elo (es : List V) (i : Nat) (n : Nat) (f : V → Option Blk)
  | fail
def SR.holds : SR → Nat → Blk → Prop
  | .ok p n b, n', b' => p ∧ n' = n ∧ b' = b
  | .put n b, n', b' => n' = n ∧ b' = b
  | .box n g sz e, n', b' => n' = n ∧ b' = .row g sz [e]
  | .elo es i n f, n', b' => n' = n ∧ ∃ e, es[i]? = some e ∧ f e = some b'
  | .fail, _, _ => False
def spineK : List V → (List V → Prop) → Prop
  | [], K => K []
  | x :: xs, K => spineK xs fun r => K (x :: r)
theorem spineK_eq : ∀ (xs : List V) (K : List V → Prop), spineK xs K = K xs
  | [], _ => rfl
  | x :: xs, K => by rw [spineK, spineK_eq xs]
def forceK (v : V) (K : V → Prop) : Prop :=
  match v with
  | .any => K .any
  | .int k n => K (.int k n)
  | .bool b => K (.bool b)
  | .str s => K (.str s)
  | .agg xs => K (.agg xs)
  | .tup xs => K (.tup xs)
  | .nilp => K .nilp
  | .ptr n g i j => K (.ptr n g i j)
  | .sp ls j => K (.sp ls j)
  | .list sz xs => K (.list sz xs)
  | .gl n g sz xs => K (.gl n g sz xs)
  | .msl n g o l => K (.msl n g o l)
  | .esl => K .esl
  | .iface t x => K (.iface t x)
  | .nili => K .nili
  | .fn f c => K (.fn f c)
  | .lit v => K (.lit v)
theorem forceK_eq (v : V) (K : V → Prop) : forceK v K = K v := by cases v <;> rfl
/-- An element of a variable: its cells are laid out. -/
def elemK (v : V) (K : V → Prop) : Prop :=
  match v with
  | .agg xs => spineK xs fun xs => K (.agg xs)
  | v => forceK v K
theorem elemK_eq (v : V) (K : V → Prop) : elemK v K = K v := by
  cases v <;> simp only [elemK, spineK_eq, forceK_eq]
/-- A row that is known: its elements are laid out. -/
def rowK (m : Md) (b : Blk) (K : Blk → Prop) : Prop := match m with
  | .wide => K b
  | _ => match b with
    | .row g sz es => spineK es fun es => K (.row g sz es)
    | b => K b
theorem rowK_eq (m : Md) (b : Blk) (K : Blk → Prop) : rowK m b K = K b := by
  cases m <;> cases b <;> simp only [rowK, spineK_eq]
def SR.vc (md : Nat → Md) : SR → (Nat → Blk → Prop) → Prop
  | .ok p n b, K => p ∧ rowK (md n) b fun b => K n b
  | .put n b, K => rowK (md n) b fun b => K n b
  | .box n g sz e, K => elemK e fun e => K n (.row g sz [e])
  | .elo es i n f, K => ∃ e, es[i]? = some e ∧ match f e with | some b => K n b | none => False
  | .fail, _ => False
theorem SR.of_vc {md : Nat → Md} {r : SR} {K : Nat → Blk → Prop} (h : r.vc md K) : ∃ n b, r.holds n b ∧ K n b := by
  cases r with
  | ok p n b => exact ⟨n, b, ⟨h.1, rfl, rfl⟩, by simpa only [rowK_eq] using h.2⟩
  | put n b => exact ⟨n, b, ⟨rfl, rfl⟩, by simpa only [SR.vc, rowK_eq] using h⟩
  | box n g sz e => exact ⟨n, _, ⟨rfl, rfl⟩, by simpa only [SR.vc, elemK_eq] using h⟩
  | elo es i n f =>
    obtain ⟨e, h1, h2⟩ := h
    split at h2
    · rename_i b hb; exact ⟨n, b, ⟨rfl, e, h1, hb⟩, h2⟩
    · exact h2.elim
  | fail => exact h.elim

def storeR (ty : TypeId → TI) (md : Nat → Md) (T : TypeId) (m : Nat → Option Blk) (a x : V) : SR :=
  match a with
  | .ptr n g i j => match m n with
    | some (.row g' sz es) => match Nat.beq g g', plainV x, (ty T).td.isUnk with
      | true, true, false => match (ty T).td, Nat.beq sz 1 with
        | .arr len e, true => match Nat.beq i 0, Nat.beq j 0, (ty e).td.isAgg, Nat.beq (ty T).size len with
          | true, true, false, true => match md n with
            | .wide => .ok (es.length = len ∧ (leaves x).length = len ∧ ∀ y ∈ leaves x, cellV y = true) n (.row g 1 (leaves x))
            | _ => match Nat.beq es.length len, Nat.beq (leaves x).length len, (leaves x).all cellV with
              | true, true, true => .put n (.row g 1 (leaves x))
              | _, _, _ => .fail
          | _, _, _, _ => .fail
        | _, _ => match Nat.beq (leaves x).length (ty T).size, (leaves x).all cellV with
          | true, true => match md n with
            | .wide => .elo es i n (fun e => (putE j x e).map fun e' => .row g sz (es.set i e'))
            | _ => match es with
              | [e] => match Nat.beq i 0, putE j x e with
                | true, some e' => .box n g sz e'
                | _, _ => .fail
              | es => match nth es i with
                | some e => match putE j x e with
                  | some e' => .put n (.row g sz (setN es i e'))
                  | none => .fail
                | none => .fail
          | _, _ => .fail
      | _, _, _ => .fail
    | _ => .fail
  | _ => .fail

theorem getElem?_putL {zl : List V} {off : Nat} {xs : List V} (h : off + xs.length ≤ zl.length) (j : Nat) :
    (putL zl off xs)[j]? = if off ≤ j ∧ j < off + xs.length then xs[j - off]? else zl[j]? := by
  unfold putL
  rw [List.append_assoc]
  by_cases h1 : j < off
  · rw [List.getElem?_append_left (by simp; omega), if_neg (by omega), List.getElem?_take_of_lt h1]
  · rw [List.getElem?_append_right (by simp; omega), List.length_take, Nat.min_eq_left (by omega)]
    by_cases h2 : j < off + xs.length
    · rw [List.getElem?_append_left (by omega), if_pos (by omega)]
    · rw [List.getElem?_append_right (by omega), if_neg (by omega), List.getElem?_drop]
      congr 1
      omega

theorem putL_length {zl : List V} {off : Nat} {xs : List V} (h : off + xs.length ≤ zl.length) : (putL zl off xs).length = zl.length := by
  simp [putL]; omega

/-- The write of a part of one element. -/
theorem store_elem {P : Program} {ty : TypeId → TI} (hty : ∀ t, TyOk P t (ty t)) {T : TypeId} {c : Cx} {w : World} (hs : Sim c w) {x : V} {u : Value} (hx : R c x u) (hpl : plainV x = true) (hn : (ty T).td ≠ .unk)
    (hsz : (leaves x).length = (ty T).size) (hcell : ∀ y ∈ leaves x, cellV y = true) {n g i j sz k : Nat} {es : List V} (hm : c.mem n = some (.row g sz es)) (hk : c.ι n = some k) {e e' : V} (he : es[i]? = some e) (hpe : putE j x e = some e') :
    ∃ w' c', (Instr.storeAt T (.pointer (some ⟨k, i * sz + j, none⟩)) u).run P w = .ok () w' ∧ EExt c w c' w' (mupd c.mem n (.row g sz (es.set i e'))) := by
  obtain ⟨k0, cs, T0, fr, a1, a2, a3, a4, a5, a6, a7⟩ := hs.ok n _ hm
  rw [hk] at a1; injection a1 with a1; subst a1
  obtain ⟨vs, h1, h2, h3⟩ := cells_of hx hpl
  have hil := (List.getElem?_eq_some_iff.1 he).1
  have hle : (leaves e).length = sz := a5 e (mem_of_at he)
  have hmulle : (i + 1) * sz ≤ es.length * sz := Nat.mul_le_mul_right _ hil
  rw [Nat.add_mul, Nat.one_mul] at hmulle
  have key : j + (leaves x).length ≤ sz ∧ (leaves e').length = sz ∧ ∀ p, (leaves e')[p]? = if j ≤ p ∧ p < j + (leaves x).length then (leaves x)[p - j]? else (leaves e)[p]? := by
    unfold putE at hpe
    split at hpe
    · rename_i ls
      split at hpe
      · rename_i hb
        injection hpe with hpe
        subst hpe
        have hb := Nat.le_of_ble_eq_true hb
        have hle : ls.length = sz := hle
        show _ ∧ (putL ls j (leaves x)).length = sz ∧ ∀ p, (putL ls j (leaves x))[p]? = if j ≤ p ∧ p < j + (leaves x).length then (leaves x)[p - j]? else ls[p]?
        exact ⟨by omega, by rw [putL_length hb]; exact hle, getElem?_putL hb⟩
      · cases hpe
    · rename_i hno
      split at hpe
      · rename_i b1 b2
        injection hpe with hpe
        subst hpe
        have b1 := Nat.eq_of_beq_eq_true b1
        have b2 := Nat.eq_of_beq_eq_true b2
        subst b1
        have hle1 : leaves e = [e] := by cases e <;> first | rfl | exact absurd rfl (hno _)
        rw [hle1] at hle ⊢
        simp at hle
        refine ⟨by omega, by omega, fun p => ?_⟩
        by_cases hp : p = 0
        · subst hp; rw [if_pos ⟨Nat.le_refl _, by omega⟩]
        · rw [if_neg (by omega), List.getElem?_eq_none (by omega), List.getElem?_eq_none (by simp; omega)]
      · cases hpe
  obtain ⟨k1, k2, k3⟩ := key
  have hone : ∀ v ∈ vs, v.oneCell' = true := by
    intro v hv
    obtain ⟨p, hp⟩ := List.getElem?_of_mem hv
    have hpl : p < (leaves x).length := by rw [h2]; exact (List.getElem?_eq_some_iff.1 hp).1
    exact cellV_one (h3 p _ v (List.getElem?_eq_getElem hpl) hp) (hcell _ (List.getElem_mem hpl))
  obtain ⟨w', e1, e2⟩ := run_put (P := P) vs (i * sz + j) 0 cs w a2 a4 (by omega) hone
  rw [Nat.add_zero] at e2
  obtain ⟨c', f1, _⟩ := put_row hs hm hk a2 e2 (es' := es.set i e') (by simp) (fun y hy => by
    rcases List.mem_or_eq_of_mem_set hy with h | h
    · exact a5 y h
    · rw [h]; exact k2) (fun a y b z hy hz => by
    have hb : b < sz := by
      have hb := (List.getElem?_eq_some_iff.1 hz).1
      have : (leaves y).length = sz := by
        rcases List.mem_or_eq_of_mem_set (mem_of_at hy) with h | h
        · exact a5 y h
        · rw [h]; exact k2
      omega
    by_cases hai : a = i
    · subst hai
      rw [List.getElem?_set_self hil] at hy
      injection hy with hy
      subst hy
      rw [k3] at hz
      by_cases hc : j ≤ b ∧ b < j + (leaves x).length
      · rw [if_pos hc] at hz
        have hlt : b - j < vs.length := by omega
        refine ⟨vs[b - j], ?_, h3 _ _ _ hz (List.getElem?_eq_getElem hlt)⟩
        rw [if_pos (by omega), show a * sz + b - (a * sz + j) = b - j by omega]
        exact List.getElem?_eq_getElem hlt
      · rw [if_neg hc] at hz
        rw [if_neg (by omega)]
        exact a6 a e b z he hz
    · rw [List.getElem?_set_ne (by omega)] at hy
      rw [if_neg ?_]
      · exact a6 a y b z hy hz
      · intro hc
        rcases Nat.lt_or_gt_of_ne hai with h | h
        · have := Nat.mul_le_mul_right sz (show a + 1 ≤ i from h)
          rw [Nat.add_mul] at this
          omega
        · have := Nat.mul_le_mul_right sz (show i + 1 ≤ a from h)
          rw [Nat.add_mul] at this
          omega)
  refine ⟨w', c', ?_, f1⟩
  have hszr := (hty T).run_size hn w
  have hvl : vs.toArray.size = (ty T).size := by simp [← h2, hsz]
  simp only [Instr.storeAt, Instr.sureAddr, Sem.run_bind, Sem.run_pure, Result.andThen_ok, storeVar, h1, hszr, hvl]
  simpa using e1

theorem storeR_sound {P : Program} {ty : TypeId → TI} (hty : ∀ t, TyOk P t (ty t)) {md : Nat → Md} {T : TypeId} {c : Cx} {w : World} (hs : Sim c w) {a x : V} {v u : Value} (ha : R c a v) (hx : R c x u) {n : Nat} {b : Blk}
    (hd : (storeR ty md T c.mem a x).holds n b) : ∃ w' c', (Instr.storeAt T v u).run P w = .ok () w' ∧ EExt c w c' w' (mupd c.mem n b) := by
  unfold storeR at hd
  split at hd
  case h_2 => exact hd.elim
  rename_i n0 g i j
  split at hd
  case h_2 => exact hd.elim
  rename_i g' sz es hm
  split at hd
  case h_2 => exact hd.elim
  rename_i hg hpl hunk
  have hn := TD.isUnk_false hunk
  obtain ⟨k, hk, rfl⟩ := ptr_at ha hm hg
  have hg := Nat.eq_of_beq_eq_true hg
  subst hg
  split at hd
  · rename_i len e htd hsz1
    have hsz1 := Nat.eq_of_beq_eq_true hsz1
    subst hsz1
    split at hd
    case h_2 => exact hd.elim
    rename_i b1 b2 b4 b5
    have b1 := Nat.eq_of_beq_eq_true b1
    have b2 := Nat.eq_of_beq_eq_true b2
    have b5 := Nat.eq_of_beq_eq_true b5
    subst b1 b2
    obtain ⟨⟨p1, p2, p3⟩, rfl, rfl⟩ : (es.length = len ∧ (leaves x).length = len ∧ ∀ y ∈ leaves x, cellV y = true) ∧ n = n0 ∧ b = .row g 1 (leaves x) := by
      split at hd
      · exact hd
      · split at hd
        case h_2 => exact hd.elim
        rename_i q1 q2 q3
        exact ⟨⟨Nat.eq_of_beq_eq_true q1, Nat.eq_of_beq_eq_true q2, List.all_eq_true.1 q3⟩, hd⟩
    obtain ⟨k0, cs, T0, fr, a1, a2, a3, a4, a5, a6, a7⟩ := hs.ok _ _ hm
    rw [hk] at a1; injection a1 with a1; subst a1
    obtain ⟨vs, h1, h2, h3⟩ := cells_of hx hpl
    have hone : ∀ v ∈ vs, v.oneCell' = true := by
      intro v hv
      obtain ⟨p, hp⟩ := List.getElem?_of_mem hv
      have hpl : p < (leaves x).length := by rw [h2]; exact (List.getElem?_eq_some_iff.1 hp).1
      exact cellV_one (h3 p _ v (List.getElem?_eq_getElem hpl) hp) (p3 _ (List.getElem_mem hpl))
    have hl1 : ∀ y ∈ leaves x, leaves y = [y] := by
      intro y hy
      have := p3 y hy
      cases y <;> first | rfl | cases this
    obtain ⟨w', e1, e2⟩ := run_put (P := P) vs 0 0 cs w a2 a4 (by omega) hone
    obtain ⟨c', f1, _⟩ := put_row hs hm hk a2 e2 (es' := leaves x) (by omega) (fun y hy => by rw [hl1 y hy]; rfl) (fun a y b z hy hz => by
      rw [hl1 y (mem_of_at hy)] at hz
      cases b with
      | succ b => simp at hz
      | zero =>
        simp at hz
        subst hz
        have hlt : a < vs.length := by rw [← h2]; exact (List.getElem?_eq_some_iff.1 hy).1
        refine ⟨vs[a], ?_, h3 _ _ _ hy (List.getElem?_eq_getElem hlt)⟩
        rw [if_pos (by omega)]
        simp)
    refine ⟨w', c', ?_, f1⟩
    have hszr := (hty T).run_size hn w
    have hvl : vs.toArray.size = (ty T).size := by simp [← h2]; omega
    simp only [Instr.storeAt, Instr.sureAddr, Sem.run_bind, Sem.run_pure, Result.andThen_ok, storeVar, h1, hszr, hvl]
    simpa using e1
  · split at hd
    case h_2 => exact hd.elim
    rename_i hsz hall
    have hsz := Nat.eq_of_beq_eq_true hsz
    have hcell : ∀ y ∈ leaves x, cellV y = true := List.all_eq_true.1 hall
    split at hd
    · obtain ⟨rfl, e, he, hf⟩ := hd
      obtain ⟨e', h1, rfl⟩ := Option.map_eq_some_iff.1 hf
      exact store_elem hty hs hx hpl hn hsz hcell hm hk he h1
    · split at hd
      · split at hd
        case h_2 => exact hd.elim
        rename_i e _ _ e' hib hpe
        have hib := Nat.eq_of_beq_eq_true hib
        subst hib
        obtain ⟨rfl, rfl⟩ := hd
        exact store_elem hty hs hx hpl hn hsz hcell hm hk (e := e) rfl hpe
      · rw [nth_eq] at hd
        split at hd
        case h_2 => exact hd.elim
        rename_i e he
        split at hd
        case h_2 => exact hd.elim
        rename_i e' hpe
        obtain ⟨rfl, rfl⟩ := hd
        rw [setN_eq]
        exact store_elem hty hs hx hpl hn hsz hcell hm hk he hpe

/-! ### append -/
/-- What the second argument of 'append' brings. -/
def newsV (m : Nat → Option Blk) (sz : Nat) : V → Option (Prop × List V)
  | .list sz' xs => match Nat.beq sz' sz with | true => some (True, xs) | false => none
  | .gl _ _ sz' xs => match Nat.beq sz' sz with | true => some (True, xs) | false => none
  | .msl n g off len => match m n with
    | some (.row g' sz' es) => match Nat.beq g g', Nat.beq sz' sz with
      | true, true => some (∀ x ∈ es, x.pure = true, (es.drop off).take len)
      | _, _ => none
    | _ => none
  | .esl => some (True, [])
  | .str s => match Nat.beq sz 1 with | true => some (True, s.map encB) | false => none
  | _ => none

structure AR where
  p : Prop
  v : V
  n : Nat
  b : Blk

def isSeq : TD → Bool
  | .slice _ => true
  | .str => true
  | _ => false

def appendR (ty : TypeId → TI) (md : Nat → Md) (T T2 : TypeId) (m : Nat → Option Blk) (d : Nat) (x y : V) : Option AR :=
  match (ty T).td with
  | .slice e => match (ty e).td.isUnk, isSeq (ty T2).td, Nat.beq (ty e).bytes 0, Nat.beq (leaves (ty e).zero).length (ty e).size, newsV m (ty e).size y with
    | false, true, false, true, some (q, ys) => match x with
      | .esl => match md d with
        | .wide => some ⟨q ∧ ys ≠ [] ∧ ys.length * (ty e).bytes ≤ 140737488355328, .msl d (ngen m d) 0 ys.length, d, .row (ngen m d) (ty e).size ys⟩
        | _ => some ⟨q ∧ ys.length * (ty e).bytes ≤ 140737488355328, .gl d (ngen m d) (ty e).size ys, d, .tok (ngen m d) (ty e).size ys.length (!ys.isEmpty)⟩
      | .gl n g sz xs => match m n with
        | some (.tok g' sz' _ r) => match Nat.beq g g', Nat.beq sz (ty e).size, Nat.beq sz' (ty e).size with
          | true, true, true => some ⟨q ∧ (xs.length + ys.length) * (ty e).bytes ≤ 140737488355328 ∧ ∀ y ∈ ys, ∀ z ∈ leaves y, cellV z = true, .gl n (g + 1) sz (xs ++ ys), n, .tok (g + 1) sz (xs.length + ys.length) (r || !ys.isEmpty)⟩
          | _, _, _ => none
        | _ => none
      | _ => none
    | _, _, _, _, _ => none
  | _ => none
end Go.Ab

/- 'append' is what the evaluator says. -/
namespace Go.Ab

/-- What is appended, as the machine reads it: in the world, and in one that has drawn. -/
structure News (P : Program) (c : Cx) (w : World) (sz : Nat) (ys : List V) (u : Value) (news : List Value) : Prop where
  lenOf : (Builtin.lenOf u).run P w = .ok ys.length w
  cells : (Builtin.firstCells sz ys.length u).run P w = .ok news.toArray w
  drew : (Builtin.firstCells sz ys.length u).run P w.drew = .ok news.toArray w.drew
  len : news.length = ys.length * sz
  leaf : ∀ x ∈ ys, (leaves x).length = sz
  rel : ∀ (i : Nat) (x : V) (j : Nat) (y : V), ys[i]? = some x → (leaves x)[j]? = some y → ∃ v, news[i * sz + j]? = some v ∧ R c.bare y v

/-- Cells, from places that are known. -/
theorem cells_list {w : World} {c : Cx} {k o sz : Nat} {ys : List V} (hl : ∀ x ∈ ys, (leaves x).length = sz)
    (h : ∀ (i : Nat) (x : V) (j : Nat), ys[i]? = some x → j < sz → ∃ v, w.cell? ⟨k, o + i * sz + j, none⟩ = some v ∧ ∀ y, (leaves x)[j]? = some y → R c.bare y v) :
    ∃ news : List Value, news.length = ys.length * sz ∧ (∀ j v, news[j]? = some v → w.cell? ⟨k, o + j, none⟩ = some v) ∧
      ∀ (i : Nat) (x : V) (j : Nat) (y : V), ys[i]? = some x → (leaves x)[j]? = some y → ∃ v, news[i * sz + j]? = some v ∧ R c.bare y v := by
  have key : ∀ j, j < ys.length * sz → ∃ v, w.cell? ⟨k, o + j, none⟩ = some v ∧ ∀ (x y : V), ys[j / sz]? = some x → (leaves x)[j % sz]? = some y → R c.bare y v := by
    intro j hj
    have hpos : 0 < sz := by
      rcases Nat.eq_zero_or_pos sz with h | h
      · subst h; omega
      · exact h
    have h1 : j / sz < ys.length := Nat.div_lt_of_lt_mul (by rw [Nat.mul_comm]; exact hj)
    obtain ⟨v, e1, e2⟩ := h (j / sz) ys[j / sz] (j % sz) (List.getElem?_eq_getElem h1) (Nat.mod_lt _ hpos)
    have : o + j / sz * sz + j % sz = o + j := by
      have := Nat.div_add_mod j sz
      rw [Nat.mul_comm] at this
      omega
    rw [this] at e1
    refine ⟨v, e1, fun x y hx hy => e2 y ?_⟩
    rw [List.getElem?_eq_getElem h1] at hx
    injection hx with hx
    subst hx
    exact hy
  obtain ⟨news, n1, n2⟩ := list_choice (Q := fun j _ v => w.cell? ⟨k, o + j, none⟩ = some v ∧ ∀ (x y : V), ys[j / sz]? = some x → (leaves x)[j % sz]? = some y → R c.bare y v) (List.replicate (ys.length * sz) ()) (fun j _ hj => by
    rw [List.getElem?_replicate] at hj
    split at hj
    · rename_i h; exact key j h
    · cases hj)
  rw [List.length_replicate] at n1
  refine ⟨news, n1, fun j v hv => ?_, fun i x j y hx hy => ?_⟩
  · have hj : j < ys.length * sz := by rw [← n1]; exact (List.getElem?_eq_some_iff.1 hv).1
    exact (n2 j () v (by rw [List.getElem?_replicate, if_pos hj]) hv).1
  · have hi := (List.getElem?_eq_some_iff.1 hx).1
    have hjs : j < sz := by rw [← hl x (mem_of_at hx)]; exact (List.getElem?_eq_some_iff.1 hy).1
    have hlt : i * sz + j < ys.length * sz := by
      have := Nat.mul_le_mul_right sz (show i + 1 ≤ ys.length from hi)
      rw [Nat.add_mul] at this
      omega
    have hlt' : i * sz + j < news.length := by omega
    refine ⟨news[i * sz + j], List.getElem?_eq_getElem hlt', ?_⟩
    refine (n2 (i * sz + j) () _ (by rw [List.getElem?_replicate, if_pos hlt]) (List.getElem?_eq_getElem hlt')).2 x y ?_ ?_
    · rw [show (i * sz + j) / sz = i by rw [Nat.mul_comm, Nat.mul_add_div (by omega), Nat.div_eq_of_lt hjs, Nat.add_zero]]; exact hx
    · rw [show (i * sz + j) % sz = j by rw [Nat.mul_comm, Nat.mul_add_mod, Nat.mod_eq_of_lt hjs]]; exact hy

theorem News.of_cells {P : Program} {c : Cx} {w : World} {k o sz cap : Nat} {ys : List V} {news : List Value} (hl : ∀ x ∈ ys, (leaves x).length = sz) (h1 : news.length = ys.length * sz) (h2 : ∀ j v, news[j]? = some v → w.cell? ⟨k, o + j, none⟩ = some v)
    (h3 : ∀ (i : Nat) (x : V) (j : Nat) (y : V), ys[i]? = some x → (leaves x)[j]? = some y → ∃ v, news[i * sz + j]? = some v ∧ R c.bare y v) : News P c w sz ys (.slice (some ⟨k, o, none⟩) ys.length cap) news :=
  ⟨by simp [Builtin.lenOf], run_firstCells_some w sz ys.length _ _ _ news h1 (fun j v h => by rw [add_none]; exact h2 j v h),
    run_firstCells_some w.drew sz ys.length _ _ _ news h1 (fun j v h => by rw [add_none, World.cell?_drew]; exact h2 j v h), h1, hl, h3⟩

theorem News.nil (P : Program) (c : Cx) (w : World) (sz : Nat) (A : Option Addr) (cap : Nat) : News P c w sz [] (.slice A 0 cap) [] :=
  ⟨by simp [Builtin.lenOf], by cases A <;> simp [Builtin.firstCells, loadCells, loadCellsFrom], by cases A <;> simp [Builtin.firstCells, loadCells, loadCellsFrom], by simp, by simp, by simp⟩

theorem pure_leaf {x y : V} (h : x.pure = true) (hy : y ∈ leaves x) : y.pure = true := by
  cases x <;> simp only [leaves, List.mem_singleton] at hy <;> first
    | (subst hy; exact h)
    | (simp only [V.pure, V.ok] at h; exact (okL_iff _ _).1 h y hy)

theorem news_list {P : Program} {c : Cx} {w : World} (hs : Sim c w) {sz : Nat} {ys : List V} {u : Value} (h : R c (.list sz ys) u) : ∃ news, News P c w sz ys u news := by
  cases h with
  | list _ _ A cap b o f hA hcap hl hS hr =>
    by_cases hy : ys = []
    · subst hy; exact ⟨[], .nil P c w sz A cap⟩
    · obtain ⟨news, h1, h2, h3⟩ := cells_list (w := w) (c := c) (k := b) (o := o) hl (fun i x j hx hj => ⟨f i j, hs.stab _ _ _ (hS i x j hx hj), fun y hy => hr i x j y hx hy⟩)
      rw [hA hy]
      exact ⟨news, .of_cells hl h1 h2 h3⟩

theorem news_run {P : Program} {c : Cx} {w : World} (hs : Sim c w) {sz : Nat} {y : V} {u : Value} (h : R c y u) {ys : List V} {q : Prop} (hd : newsV c.mem sz y = some (q, ys)) (hq : q) : ∃ news, News P c w sz ys u news := by
  unfold newsV at hd
  split at hd
  · split at hd
    · rename_i hb
      have hb := Nat.eq_of_beq_eq_true hb
      injection hd with hd
      injection hd with _ hd
      subst hd hb
      exact news_list hs h
    · cases hd
  · split at hd
    · rename_i hb
      have hb := Nat.eq_of_beq_eq_true hb
      injection hd with hd
      injection hd with _ hd
      subst hd hb
      exact news_list hs (gl_list h)
    · cases hd
  · split at hd
    case h_2 => cases hd
    rename_i n g off len _ g' sz' es hm
    split at hd
    case h_2 => cases hd
    rename_i hg hsz
    have hsz := Nat.eq_of_beq_eq_true hsz
    subst hsz
    injection hd with hd
    injection hd with hq' hd
    subst hq'
    obtain ⟨k, A, cap, hk, rfl, h1, h2, hA⟩ := msl_at h hm hg
    have hlen : ys.length = len := by rw [← hd]; simp; omega
    by_cases hy : ys = []
    · subst hy; simp at hlen; subst hlen; exact ⟨[], .nil P c w _ A cap⟩
    · have hpos : 0 < len := by rw [← hlen]; exact List.length_pos_iff.2 hy
      obtain ⟨k0, cs, T0, fr, a1, a2, a3, a4, a5, a6, a7⟩ := hs.ok _ _ hm
      have hat : ∀ (i : Nat) (x : V), ys[i]? = some x → es[off + i]? = some x := fun i x hx => by
        rw [← hd, List.getElem?_take] at hx
        split at hx
        · rwa [List.getElem?_drop] at hx
        · cases hx
      have hl : ∀ x ∈ ys, (leaves x).length = sz' := fun x hx => by
        obtain ⟨i, hi⟩ := List.getElem?_of_mem hx
        exact a5 x (mem_of_at (hat i x hi))
      obtain ⟨news, h1, h2, h3⟩ := cells_list (w := w) (c := c) (k := k) (o := off * sz') hl (fun i x j hx hj => by
        have he := hat i x hx
        have hj' : j < (leaves x).length := by rw [hl x (mem_of_at hx)]; exact hj
        obtain ⟨v, e1, e2⟩ := row_cell hs hm hk he j _ (List.getElem?_eq_getElem hj')
        refine ⟨v, by rw [show off * sz' + i * sz' + j = (off + i) * sz' + j by rw [Nat.add_mul]]; exact e1, fun y hy => ?_⟩
        rw [List.getElem?_eq_getElem hj'] at hy
        injection hy with hy
        subst hy
        have := e2.strip
        exact e2.to_bare (pure_leaf (hq x (mem_of_at he)) (mem_of_at (List.getElem?_eq_getElem hj'))))
      rw [hA (by omega), ← hlen]
      exact ⟨news, .of_cells hl h1 h2 h3⟩
  · injection hd with hd
    injection hd with _ hd
    subst hd
    cases h with
    | esl A => exact ⟨[], .nil P c w _ A 0⟩
  · split at hd
    case h_2 => cases hd
    rename_i s _ hb
    have hb := Nat.eq_of_beq_eq_true hb
    subst hb
    injection hd with hd
    injection hd with _ hd
    subst hd
    cases h with
    | str =>
      have hsz : (⟨s.toArray⟩ : ByteArray).size = (s.map encB).length := by simp [ByteArray.size]
      have hx : ((⟨s.toArray⟩ : ByteArray).extract 0 (s.map encB).length).data.map (fun b => Value.int .u8 b.toNat) = (s.map fun b => Value.int .u8 (b.toNat : Int)).toArray := by
        rw [show (s.map encB).length = s.length by simp, str_extract]; simp
      refine ⟨s.map fun b => .int .u8 (b.toNat : Int), by simp [Builtin.lenOf, ByteArray.size], ?_, ?_, by simp, fun x hx => ?_, fun i x j y h1 h2 => ?_⟩
      · simp only [Builtin.firstCells, Sem.run_pure]; rw [hx]
      · simp only [Builtin.firstCells, Sem.run_pure]; rw [hx]
      · obtain ⟨b, _, rfl⟩ := List.mem_map.1 hx; rfl
      · rw [List.getElem?_map] at h1
        obtain ⟨b, hb, rfl⟩ := Option.map_eq_some_iff.1 h1
        cases j with
        | succ j => simp [leaves, encB] at h2
        | zero =>
          simp [leaves, encB] at h2
          subst h2
          exact ⟨.int .u8 b.toNat, by simp [hb], .int _ _⟩
  · cases hd

theorem EExt.of_QExt {c : Cx} {w : World} {c' : Cx} {w' : World} {d : Nat} {b : Blk} (h : QExt c w c' w' (some (d, b))) (hd : d < 1000 ∨ c.mem d ≠ none) : EExt c w c' w' (mupd c.mem d b) :=
  ⟨h.ext, h.mono, h.sim, h.mem, fun n hn hm => by
    by_cases hnd : n = d
    · subst hnd; rcases hd with h | h
      · omega
      · exact h
    · rw [h.mem] at hm
      simpa [mupd_other _ _ hnd] using hm⟩

theorem Sim.drew {c : Cx} {w : World} (h : Sim c w) : Sim c w.drew := ⟨fun b o v hv => h.stab b o v hv, fun n b hb => h.ok n b hb, h.inj⟩

section
variable {P : Program}

/-- The type that is appended is no number. -/
def noInt (P : Program) (t : TypeId) : Prop := (∃ e, P.underlying t = some (.slice e)) ∨ P.underlying t = some .string

theorem append_grow {w : World} {t t2 ty e : TypeId} {i : TypeInfo} {z : Value} (ht : P.underlying t = some (.slice e)) (ht2 : noInt P t2) (hi : P.info? e = some i) (hz : i.zero = some z) (hb : 0 < i.bytes)
    {A : Option Addr} {sLen sCap : Nat} {u : Value} {n : Nat} {olds news : List Value} (hlen : (Builtin.lenOf u).run P w = .ok n w) (hold : (Builtin.firstCells i.size sLen (.slice A sLen sCap)).run P w.drew = .ok olds.toArray w.drew)
    (hnew : (Builtin.firstCells i.size n u).run P w.drew = .ok news.toArray w.drew) (hg : sCap < sLen + n) (hfit : (sLen + n) * i.bytes ≤ 140737488355328) :
    (Builtin.append_ #[t, t2] ty #[.slice A sLen sCap, u]).run P w =
      .ok (.slice (some ⟨w.heap.size, 0, none⟩) (sLen + n) (grownCap w (sLen + n) sCap e)) (w.drew.alloc (.cells (olds.toArray ++ news.toArray ++ Builtin.zeroCells z.cells (grownCap w (sLen + n) sCap e - (sLen + n))) e)) := by
  have hn : ¬ (sLen + n ≤ sCap) := by omega
  have h1 : sLen + n ≤ (sLen + n) * i.bytes := Nat.le_mul_of_pos_right _ hb
  have h63' : ¬ (9223372036854775807 < ((sLen : Int) + (n : Int))) := by omega
  have h48' : ¬ (281474976710656 < Builtin.nextslicecap (sLen + n) sCap * i.bytes) := by
    have := growslice_fits hg hfit; omega
  have fin : ∀ x : Array Value, olds.toArray ++ (news.toArray ++ x) = (olds ++ news).toArray ++ x := by intro x; apply Array.ext'; simp [List.append_assoc]
  rcases ht2 with ⟨e2, hu2⟩ | hu2
  · simp [Builtin.append_, run_underlying ht, run_underlying hu2, sizeOf, typeInfo, zeroValue, hi, hz, hlen, hn, h63', h48', Question.forced, hold, hnew, newRow, grownCap, fin]
  · simp [Builtin.append_, run_underlying ht, run_underlying hu2, sizeOf, typeInfo, zeroValue, hi, hz, hlen, hn, h63', h48', Question.forced, hold, hnew, newRow, grownCap, fin]

theorem append_room {w w' : World} {t t2 ty e : TypeId} {i : TypeInfo} (ht : P.underlying t = some (.slice e)) (ht2 : noInt P t2) (hi : P.info? e = some i)
    {A : Option Addr} {sLen sCap : Nat} {u : Value} {n : Nat} {news : List Value} (hlen : (Builtin.lenOf u).run P w = .ok n w) (hnew : (Builtin.firstCells i.size n u).run P w = .ok news.toArray w) (hg : sLen + n ≤ sCap)
    (hput : ∀ a, A = some a → (storeCells (a.add (sLen * i.size)) news).run P w = .ok () w') (hnone : A = none → w' = w) :
    (Builtin.append_ #[t, t2] ty #[.slice A sLen sCap, u]).run P w = .ok (.slice A (sLen + n) sCap) w' := by
  cases A with
  | none =>
    rw [hnone rfl]
    rcases ht2 with ⟨e2, hu2⟩ | hu2
    · simp [Builtin.append_, run_underlying ht, run_underlying hu2, sizeOf, typeInfo, hi, hlen, hg, hnew]
    · simp [Builtin.append_, run_underlying ht, run_underlying hu2, sizeOf, typeInfo, hi, hlen, hg, hnew]
  | some a =>
    have := hput a rfl
    rcases ht2 with ⟨e2, hu2⟩ | hu2
    · simp [Builtin.append_, run_underlying ht, run_underlying hu2, sizeOf, typeInfo, hi, hlen, hg, hnew, this]
    · simp [Builtin.append_, run_underlying ht, run_underlying hu2, sizeOf, typeInfo, hi, hlen, hg, hnew, this]
end

theorem isSeq_noInt {P : Program} {t : TypeId} {ti : TI} (h : TyOk P t ti) (hs : isSeq ti.td = true) : noInt P t := by
  unfold isSeq at hs
  split at hs
  · rename_i e he; exact .inl ⟨e, h.slice he⟩
  · rename_i he; exact .inr (h.str he)
  · cases hs

/-- The right to append to an empty list without room. -/
theorem tok_none {c : Cx} {w : World} (hs : Sim c w) (d : Nat) {g sz : Nat} (hgen : ∀ b, c.mem d = some b → b.gen < g) :
    ∃ c', QExt c w c' w (some (d, .tok g sz 0 false)) := by
  let c' : Cx := { c with ι := fun n => if n = d then none else c.ι n, mem := mupd c.mem d (.tok g sz 0 false) }
  have hother : ∀ n, n ≠ d → c'.ι n = c.ι n := fun n hn => by simp [c', hn]
  have hmem : ∀ n, n ≠ d → c'.mem n = c.mem n := fun n hn => mupd_other _ _ hn
  have hd : c'.ι d = none := by simp [c']
  have hmono : Mono c c' := ⟨fun _ _ _ h => h, fun n => by
    by_cases hn : n = d
    · subst hn
      exact .of fun b hb => ⟨_, mupd_same _ _ _, .inl (hgen b hb)⟩
    · exact .same (hmem n hn) (hother n hn) rfl⟩
  refine ⟨c', ⟨⟨rfl, rfl, rfl, Nat.le_refl _, fun _ _ _ => rfl, fun _ _ _ h => h, fun _ _ _ h => .inl h, ?_⟩, hmono, ⟨hs.stab, ?_, ?_⟩, rfl⟩⟩
  · rintro k ⟨n, hn, hk⟩
    by_cases hnd : n = d
    · subst hnd; rw [hd] at hk; cases hk
    · exact .inr ⟨n, by rw [← hmem n hnd]; exact hn, by rw [← hother n hnd]; exact hk⟩
  · intro n blk hb
    by_cases hnd : n = d
    · subst hnd
      have : blk = .tok g sz 0 false := by have := mupd_same c.mem n (.tok g sz 0 false); rw [show c'.mem n = _ from this] at hb; injection hb with hb; exact hb.symm
      subst this
      exact hd
    · rw [hmem n hnd] at hb
      exact (hs.ok n blk hb).keep (hother n hnd) rfl (fun k hk => rfl) (fun _ _ h => hmono.R h) (fun _ _ _ h => h)
  · intro n n' k hn hn' hk hk'
    by_cases h1 : n = d
    · subst h1; rw [hd] at hk; cases hk
    · by_cases h2 : n' = d
      · subst h2; rw [hd] at hk'; cases hk'
      · exact hs.inj n n' k (by rw [← hmem n h1]; exact hn) (by rw [← hmem n' h2]; exact hn') (by rw [← hother n h1]; exact hk) (by rw [← hother n' h2]; exact hk')

/-- The cells behind a growth. -/
theorem grown_cells {P : Program} {c : Cx} {w : World} {sz : Nat} {xs ys : List V} {u u' : Value} {olds news : List Value} (h1 : News P c w sz xs u olds) (h2 : News P c w sz ys u' news) (rest : Array Value) :
    (∀ x ∈ xs ++ ys, (leaves x).length = sz) ∧ ∀ (i : Nat) (x : V) (j : Nat) (y : V), (xs ++ ys)[i]? = some x → (leaves x)[j]? = some y → ∃ v, (olds.toArray ++ news.toArray ++ rest)[i * sz + j]? = some v ∧ R c.bare y v := by
  have hleaf : ∀ x ∈ xs ++ ys, (leaves x).length = sz := fun x hx => by
    rcases List.mem_append.1 hx with h | h
    · exact h1.leaf x h
    · exact h2.leaf x h
  refine ⟨hleaf, fun i x j y hx hy => ?_⟩
  have hj : j < sz := by rw [← hleaf x (mem_of_at hx)]; exact (List.getElem?_eq_some_iff.1 hy).1
  have hcat : ∀ (k : Nat) (v : Value), (olds ++ news)[k]? = some v → (olds.toArray ++ news.toArray ++ rest)[k]? = some v := fun k v h => by
    have hlt := (List.getElem?_eq_some_iff.1 h).1
    rw [Array.getElem?_append_left (by simpa using hlt)]
    simpa using h
  by_cases hi : i < xs.length
  · rw [List.getElem?_append_left hi] at hx
    obtain ⟨v, e1, e2⟩ := h1.rel i x j y hx hy
    exact ⟨v, hcat _ _ (by rw [List.getElem?_append_left (List.getElem?_eq_some_iff.1 e1).1]; exact e1), e2⟩
  · rw [List.getElem?_append_right (by omega)] at hx
    obtain ⟨v, e1, e2⟩ := h2.rel _ x j y hx hy
    refine ⟨v, hcat _ _ ?_, e2⟩
    have hm := Nat.mul_le_mul_right sz (show xs.length ≤ i by omega)
    rw [List.getElem?_append_right (by rw [h1.len]; omega), h1.len, show i * sz + j - xs.length * sz = (i - xs.length) * sz + j by rw [Nat.sub_mul]; omega]
    exact e1

theorem appendR_sound {P : Program} {ty : TypeId → TI} (hty : ∀ t, TyOk P t (ty t)) {md : Nat → Md} {T T2 tt : TypeId} {c : Cx} {w : World} (hs : Sim c w) {d : Nat} (hd1000 : d < 1000) {x y : V} {vx vy : Value} (hx : R c x vx) (hy : R c y vy) {r : AR}
    (hd : appendR ty md T T2 c.mem d x y = some r) (hp : r.p) : ∃ u w' c', (Builtin.append_ #[T, T2] tt #[vx, vy]).run P w = .ok u w' ∧ EExt c w c' w' (mupd c.mem r.n r.b) ∧ R c' r.v u := by
  unfold appendR at hd
  split at hd
  case h_2 => cases hd
  rename_i e htd
  have hT := (hty T).slice htd
  split at hd
  case h_2 => cases hd
  rename_i q ys hunk hseq hby hzl hnv
  have hq : q := by
    split at hd
    · split at hd <;> (injection hd with hd; subst hd; exact hp.1)
    · split at hd
      · split at hd
        · injection hd with hd; subst hd; exact hp.1
        · cases hd
      · cases hd
    · cases hd
  have hn := TD.isUnk_false hunk
  have hT2 := isSeq_noInt (hty T2) hseq
  obtain ⟨i, z, i1, i2, i3, i4, i5⟩ := (hty e).info hn
  have hb0 : 0 < i.bytes := by
    rw [i3]
    rcases Nat.eq_zero_or_pos (ty e).bytes with h | h
    · rw [h] at hby; cases hby
    · exact h
  have hzl := Nat.eq_of_beq_eq_true hzl
  have hzs : z.cells.size = (ty e).size := by
    obtain ⟨zs, g1, g2, _⟩ := cells_constV c z
    rw [g1, ← hzl, ← i5, g2]; simp
  obtain ⟨news, hnews⟩ := news_run hs hy hnv hq
  have hne : ys ≠ [] → 0 < ys.length := List.length_pos_iff.2
  have hgr : ∀ (xs : List V) (A : Option Addr) (sCap : Nat) (olds : List Value), News P c w (ty e).size xs (.slice A xs.length sCap) olds → sCap < xs.length + ys.length → (xs.length + ys.length) * (ty e).bytes ≤ 140737488355328 →
      ∃ cs cap, (Builtin.append_ #[T, T2] tt #[.slice A xs.length sCap, vy]).run P w = .ok (.slice (some ⟨w.heap.size, 0, none⟩) (xs.length + ys.length) cap) (w.drew.alloc (.cells cs e)) ∧ xs.length + ys.length ≤ cap ∧ cap * (ty e).size ≤ cs.size ∧
        (∀ x ∈ xs ++ ys, (leaves x).length = (ty e).size) ∧ ∀ (i : Nat) (x : V) (j : Nat) (y : V), (xs ++ ys)[i]? = some x → (leaves x)[j]? = some y → ∃ v, cs[i * (ty e).size + j]? = some v ∧ R c.bare y v := by
    intro xs A sCap olds ho hcap hbound
    obtain ⟨g1, g2⟩ := grown_cells ho hnews (Builtin.zeroCells z.cells (grownCap w (xs.length + ys.length) sCap e - (xs.length + ys.length)))
    have hge := grownCap_ge w (xs.length + ys.length) sCap e
    refine ⟨_, _, append_grow hT hT2 i1 i4 hb0 hnews.lenOf (by rw [i2]; exact ho.drew) (by rw [i2]; exact hnews.drew) hcap (by rw [i3]; exact hbound), hge, ?_, g1, g2⟩
    simp only [Array.size_append, List.size_toArray, ho.len, hnews.len, size_zeroCells, hzs]
    rw [← Nat.add_mul, ← Nat.add_mul]
    exact Nat.mul_le_mul_right _ (by omega)
  have hgl : ∀ (n g : Nat) (xs : List V) (A : Option Addr) (sCap : Nat) (olds : List Value), (n < 1000 ∨ c.mem n ≠ none) → (∀ b, c.mem n = some b → b.gen < g) → News P c w (ty e).size xs (.slice A xs.length sCap) olds → sCap < xs.length + ys.length → (xs.length + ys.length) * (ty e).bytes ≤ 140737488355328 →
      ∃ u w' c', (Builtin.append_ #[T, T2] tt #[.slice A xs.length sCap, vy]).run P w = .ok u w' ∧ EExt c w c' w' (mupd c.mem n (.tok g (ty e).size (xs.length + ys.length) true)) ∧ R c' (.gl n g (ty e).size (xs ++ ys)) u := by
    intro n g xs A sCap olds hn1 hgen ho hcap hbound
    obtain ⟨cs, cap, e1, e2, e3, e4, e5⟩ := hgr xs A sCap olds ho hcap hbound
    obtain ⟨c', f1, f2⟩ := new_gl hs (Grew.drew_alloc w cs e) n (g := g) (sz := (ty e).size) (xs := xs ++ ys) cap (by simpa using e2) hgen e3 e4 e5
    rw [List.length_append] at f1 f2
    exact ⟨_, _, c', e1, .of_QExt f1 hn1, f2⟩
  have hempty : ∀ (n g : Nat) (A : Option Addr), (n < 1000 ∨ c.mem n ≠ none) → (∀ b, c.mem n = some b → b.gen < g) → ys = [] →
      ∃ u w' c', (Builtin.append_ #[T, T2] tt #[.slice A 0 0, vy]).run P w = .ok u w' ∧ EExt c w c' w' (mupd c.mem n (.tok g (ty e).size 0 false)) ∧ R c' (.gl n g (ty e).size []) u := by
    intro n g A hn1 hgen he
    subst he
    obtain ⟨c', f1⟩ := tok_none hs n (g := g) (sz := (ty e).size) hgen
    have hl0 : news = [] := List.eq_nil_of_length_eq_zero (by rw [hnews.len]; simp)
    refine ⟨_, _, c', append_room (w' := w) hT hT2 i1 hnews.lenOf (by rw [i2]; exact hnews.cells) (by simp) (fun a _ => by rw [hl0]; simp [storeCells]) (fun _ => rfl), .of_QExt f1 hn1, ?_⟩
    exact .gl0 n g _ A (by rw [f1.mem]; exact mupd_same _ _ _)
  have hgen : ∀ b, c.mem d = some b → b.gen < ngen c.mem d := fun b hb => ngen_gt hb
  split at hd
  · cases hx with
    | esl A =>
      split at hd
      · injection hd with hd
        subst hd
        obtain ⟨_, p1, p2⟩ := hp
        obtain ⟨cs, cap, e1, e2, e3, e4, e5⟩ := hgr [] A 0 [] (.nil P c w _ A 0) (by simpa using hne p1) (by simpa using p2)
        simp only [List.length_nil, Nat.zero_add, List.nil_append] at e1 e2 e4 e5
        have hle : ys.length * (ty e).size ≤ cs.size := Nat.le_trans (Nat.mul_le_mul_right _ e2) e3
        obtain ⟨c', f1, f2, f3⟩ := new_row hs (Grew.drew_alloc w cs e) d (g := ngen c.mem d) (sz := (ty e).size) (es := ys) hgen hle e4 (fun i x j y a b => let ⟨v, k1, k2⟩ := e5 i x j y a b; ⟨v, k1, k2.of_bare⟩)
        refine ⟨_, _, c', e1, .of_QExt f1 (.inl hd1000), ?_⟩
        exact .msl d _ 0 ys.length (ty e).size ys w.heap.size _ cap (by rw [f1.mem]; exact mupd_same _ _ _) f2 (by omega) (by omega) (fun _ => by simp)
      · injection hd with hd
        subst hd
        by_cases hy0 : ys = []
        · subst hy0
          exact hempty d (ngen c.mem d) A (.inl hd1000) hgen rfl
        · have := hgl d (ngen c.mem d) [] A 0 [] (.inl hd1000) hgen (.nil P c w _ A 0) (by simpa using hne hy0) (by simpa using hp.2)
          have hb : (!ys.isEmpty) = true := by cases ys <;> simp at hy0 ⊢
          rw [hb]
          simpa using this
  · rename_i n g sz xs
    split at hd
    case h_2 => cases hd
    rename_i g' sz' len rm hm
    split at hd
    case h_2 => cases hd
    rename_i b1 b2 b3
    have b1 := Nat.eq_of_beq_eq_true b1
    have b2 := Nat.eq_of_beq_eq_true b2
    have b3 := Nat.eq_of_beq_eq_true b3
    subst b1 b2 b3
    injection hd with hd
    subst hd
    obtain ⟨_, p1, p2⟩ := hp
    have hgen' : ∀ b, c.mem n = some b → b.gen < g + 1 := fun b hb => by rw [hm] at hb; injection hb with hb; subst hb; exact Nat.lt_succ_self g
    have hn1 : n < 1000 ∨ c.mem n ≠ none := .inr (by rw [hm]; simp)
    cases hx with
    | glx _ _ _ _ _ b h hm' hg => rw [hm] at hm'; injection hm' with hm'; subst hm'; exact absurd hg (Nat.lt_irrefl _)
    | gl0 _ _ _ A hm' =>
      rw [hm] at hm'; injection hm' with hm'; injection hm' with _ _ e1 e2; subst e1 e2
      by_cases hy0 : ys = []
      · subst hy0
        exact hempty n (g + 1) A hn1 hgen' rfl
      · have := hgl n (g + 1) [] A 0 [] hn1 hgen' (.nil P c w _ A 0) (by simpa using hne hy0) (by simpa using p1)
        have hb : (!ys.isEmpty) = true := by cases ys <;> simp at hy0 ⊢
        simp only [hb, Bool.or_true]
        exact this
    | gl _ _ _ _ _ k h hm' hk hv =>
      rw [hm] at hm'; injection hm' with hm'; injection hm' with _ _ e1 e2; subst e1 e2
      subst hv
      simp only [Bool.true_or]
      obtain ⟨olds, ho⟩ := news_list (P := P) hs h
      obtain ⟨k0, cs, T0, fr, a1, a2, a3, a4, a5, a6⟩ := hs.ok _ _ hm
      rw [hk] at a1; injection a1 with a1; subst a1
      by_cases hcap : xs.length + ys.length ≤ c.cap n
      · have hone : ∀ v ∈ news, v.oneCell' = true := by
          intro v hv
          obtain ⟨q, hq⟩ := List.getElem?_of_mem hv
          have hql : q < ys.length * (ty e).size := by rw [← hnews.len]; exact (List.getElem?_eq_some_iff.1 hq).1
          have hpos : 0 < (ty e).size := by
            rcases Nat.eq_zero_or_pos (ty e).size with h | h
            · rw [h] at hql; omega
            · exact h
          have h1 : q / (ty e).size < ys.length := Nat.div_lt_of_lt_mul (by rw [Nat.mul_comm]; exact hql)
          have h2 : q % (ty e).size < (leaves ys[q / (ty e).size]).length := by rw [hnews.leaf _ (List.getElem_mem h1)]; exact Nat.mod_lt _ hpos
          obtain ⟨v', e1, e2⟩ := hnews.rel _ _ _ _ (List.getElem?_eq_getElem h1) (List.getElem?_eq_getElem h2)
          have : q / (ty e).size * (ty e).size + q % (ty e).size = q := by rw [Nat.mul_comm]; exact Nat.div_add_mod q _
          rw [this, hq] at e1
          injection e1 with e1
          subst e1
          exact cellV_one e2.of_bare (p2 _ (List.getElem_mem h1) _ (List.getElem_mem h2))
        have hroom : xs.length * (ty e).size + news.length ≤ cs.size := by
          rw [hnews.len, ← Nat.add_mul]
          exact Nat.le_trans (Nat.mul_le_mul_right _ hcap) a4
        obtain ⟨w', e1, e2⟩ := run_put (P := P) news (xs.length * (ty e).size) 0 cs w a2 a5 (by omega) hone
        rw [Nat.add_zero] at e2
        obtain ⟨c', f1, f2⟩ := put_gl hs hm hk a2 e2 h rfl hcap hnews.len hnews.leaf hnews.rel
        rw [List.length_append] at f1 f2
        refine ⟨_, w', c', append_room hT hT2 i1 hnews.lenOf (by rw [i2]; exact hnews.cells) hcap (fun a ha => ?_) (fun h => by cases h), f1, f2⟩
        injection ha with ha
        subst ha
        rw [add_none, Nat.zero_add, i2]
        exact e1
      · exact hgl n (g + 1) xs _ _ olds hn1 hgen' ho (by omega) p1
  · cases hd
end Go.Ab

/- The verification condition of a piece of code, by evaluation; and that it suffices. -/
namespace Go.Ab

/-! ### Contracts -/
/-- A call: of a function with a body, that comes to its end; or of one of the model's entries. -/
def Goes (P : Program) (f : FuncId) (vs : Array Value) (w : World) (Q : Value → World → Prop) : Prop :=
  ((∃ fn c, P.funcs[f]? = some fn ∧ (fn.name == "runtime.NumGoroutine") = false ∧ fn.body = some c) ∧ Calls P f vs w fun | .returned v, w' => Q v w' | _, _ => False) ∨
  ∃ v w', (callFunc f vs).run P w = .ok (.value v) w' ∧ Q v w'
theorem Goes.mono {P : Program} {f : FuncId} {vs : Array Value} {w : World} {Q Q' : Value → World → Prop} (h : Goes P f vs w Q) (k : ∀ v w', Q v w' → Q' v w') : Goes P f vs w Q' := by
  rcases h with ⟨h1, h2⟩ | ⟨v, w', h1, h2⟩
  · exact .inl ⟨h1, h2.mono fun e w' he => by
      cases e with
      | returned v => exact k _ _ he
      | panicked => exact he
      | outgrown => exact he⟩
  · exact .inr ⟨v, w', h1, k _ _ h2⟩
theorem Goes.upon {P : Program} {f : FuncId} {vs : Array Value} {w : World} {Q : Value → World → Prop} (h : Goes P f vs w Q) {o : Oper} {a : Act} {next : Act → World → Prop} {R : Exit → Act → World → Prop} (k : ∀ v w', Q v w' → next (a.put o.dst v) w') :
    o.upon P a next R ((callFunc f vs).run P w) := by
  rcases h with ⟨⟨fn, c, f1, f2, f3⟩, h2⟩ | ⟨v, w', h1, h2⟩
  · have f2' : ¬ fn.name = "runtime.NumGoroutine" := by simpa using f2
    have : (callFunc f vs).run P w = .ok (.enter f vs) w := by simp [callFunc, f1, f2', f3]
    rw [this, Oper.upon_enter]
    exact h2.mono fun e w' he => by
      cases e with
      | returned v => exact k _ _ he
      | panicked => exact he.elim
      | outgrown => exact he.elim
  · rw [h1, Oper.upon_value]
    exact k _ _ h2
theorem Goes.calls {P : Program} {f : FuncId} {vs : Array Value} {w : World} {Q : Value → World → Prop} (h : Goes P f vs w Q) {fn : Func} {c : Code} (f1 : P.funcs[f]? = some fn) (f2 : (fn.name == "runtime.NumGoroutine") = false) (f3 : fn.body = some c) :
    Calls P f vs w fun | .returned v, w' => Q v w' | _, _ => False := by
  rcases h with ⟨_, h2⟩ | ⟨v, w', h1, h2⟩
  · exact h2
  · have f2' : ¬ fn.name = "runtime.NumGoroutine" := by simpa using f2
    have : (callFunc f vs).run P w = .ok (.enter f vs) w := by simp [callFunc, f1, f2', f3]
    rw [this] at h1
    cases h1

/-- A function, at arguments that are known, in a memory that is known: it returns, and what it returns and leaves is such. -/
structure CallOK (P : Program) (G : Given) (f : FuncId) (args : List V) (m : Nat → Option Blk) (Post : V → (Nat → Option Blk) → Prop) : Prop where
  run : ∀ (c : Cx) (w : World) (vs : List Value), Sim c w → c.mem = m → (∀ p ∈ G, c.S p.1 p.2.1 = some p.2.2) → Rs c args vs →
    Goes P f vs.toArray w fun v w' => ∃ c' r, Post r c'.mem ∧ Ext c w c' w' ∧ Mono c c' ∧ Sim c' w' ∧ R c' r v ∧ ∀ n, 1000 ≤ n → c'.mem n ≠ none → c.mem n ≠ none

theorem CallOK.mono {P : Program} {G : Given} {f : FuncId} {args : List V} {m : Nat → Option Blk} {Post Post' : V → (Nat → Option Blk) → Prop} (h : CallOK P G f args m Post) (k : ∀ r m', Post r m' → Post' r m') : CallOK P G f args m Post' :=
  ⟨fun c w vs h1 h2 h3 h4 => (h.run c w vs h1 h2 h3 h4).mono fun v w' ⟨c', r, h5, h6⟩ => ⟨c', r, k _ _ h5, h6⟩⟩

/-- A method of a type, by its name: a function, and what it is called with. -/
def InvOK (P : Program) (t : TypeId) (name : String) (v : V) (f : FuncId) (v' : V) : Prop := ∀ (c : Cx) (u : Value) (w : World), R c v u → ∃ u', (method (P.types.size + Made.depth) t u name).run P w = .ok (f, u') w ∧ R c v' u'
theorem InvOK.self {P : Program} {t : TypeId} {name : String} {f : FuncId} (h : ∀ (v : Value) (w : World), (method (P.types.size + Made.depth) t v name).run P w = .ok (f, v) w) (v : V) : InvOK P t name v f v := fun _ u w hr => ⟨u, h u w, hr⟩
/-- Does a type have the methods that an interface asks for? -/
def AsrOK (P : Program) (t T : TypeId) (b : Bool) : Prop := ∀ (v : Value) (xT : TypeId) (w : World), (Instr.typeAssert (.iface t v) xT T true).run P w = .ok (match b with | true => .tuple #[.iface t v, .bool true] | false => .tuple #[.nilIface, .bool false]) w
def asrV (t : TypeId) (x : V) (b : Bool) : V := match b with
  | true => .tup [.iface t x, .bool true]
  | false => .tup [.nili, .bool false]

/-! ### States -/
def upd (env : Nat → V) (d : Nat) (v : V) : Nat → V := fun k => match Nat.beq k d with | true => v | false => env k
def put (env : Nat → V) (d : Option Tmp) (v : V) : Nat → V := match d with | none => env | some d => upd env d v

structure Cfg where
  P : Program
  ty : TypeId → TI
  md : Nat → Md
  N : Nat
  G : Given

abbrev Env := Nat → V
abbrev Mem := Nat → Option Blk

/-- A small number, as a numeral. -/
def natK (n : Nat) (K : Nat → Prop) : Prop := match n with
  | 0 => K 0
  | 1 => K 1
  | 2 => K 2
  | n => K n
theorem natK_eq (n : Nat) (K : Nat → Prop) : natK n K = K n := by
  unfold natK; split <;> rfl
/-- A new block, its generation a numeral. -/
def blkK (b : Blk) (K : Blk → Prop) : Prop := match b with
  | .row g sz es => natK g fun g => K (.row g sz es)
  | .tok g sz n r => natK g fun g => K (.tok g sz n r)
theorem blkK_eq (b : Blk) (K : Blk → Prop) : blkK b K = K b := by cases b <;> simp only [blkK, natK_eq]
/-- A new value: its generation a numeral. -/
def newK (v : V) (K : V → Prop) : Prop := match v with
  | .ptr n g i j => natK g fun g => K (.ptr n g i j)
  | .gl n g sz xs => natK g fun g => K (.gl n g sz xs)
  | .msl n g o l => natK g fun g => K (.msl n g o l)
  | v => forceK v K
theorem newK_eq (v : V) (K : V → Prop) : newK v K = K v := by cases v <;> simp only [newK, natK_eq, forceK_eq]

/-- A value, laid out to its leaves. -/
def deepK (v : V) (K : V → Prop) : Prop := match v with
  | .any => K .any
  | .int k n => K (.int k n)
  | .bool b => K (.bool b)
  | .str s => K (.str s)
  | .agg xs => deepL xs fun xs => K (.agg xs)
  | .tup xs => deepL xs fun xs => K (.tup xs)
  | .nilp => K .nilp
  | .ptr n g i j => K (.ptr n g i j)
  | .sp ls j => K (.sp ls j)
  | .list sz xs => K (.list sz xs)
  | .gl n g sz xs => K (.gl n g sz xs)
  | .msl n g o l => K (.msl n g o l)
  | .esl => K .esl
  | .iface t x => deepK x fun x => K (.iface t x)
  | .nili => K .nili
  | .fn f c => K (.fn f c)
  | .lit v => K (.lit v)
where deepL : List V → (List V → Prop) → Prop
  | [], K => K []
  | x :: xs, K => deepK x fun x => deepL xs fun xs => K (x :: xs)
theorem deepK_eq : ∀ (n : Nat) (v : V), SizeOf.sizeOf v ≤ n → ∀ K : V → Prop, deepK v K = K v := by
  intro n
  induction n with
  | zero => intro v h; cases v <;> simp at h
  | succ n ih =>
    have hL : ∀ xs : List V, SizeOf.sizeOf xs ≤ n → ∀ K : List V → Prop, deepK.deepL xs K = K xs := by
      intro xs
      induction xs with
      | nil => intro _ K; rfl
      | cons x xs ihx => intro h K; simp at h; rw [deepK.deepL, ih x (by omega), ihx (by omega)]
    intro v h K
    cases v <;> simp only [deepK]
    case agg xs => exact hL xs (by simp at h; omega) _
    case tup xs => exact hL xs (by simp at h; omega) _
    case iface t x => exact ih x (by simp at h; omega) _

/-- Is what the operation yields to be laid out? -/
def isLit : Op → Bool
  | .buildSlice _ _ _ => true
  | _ => false
/-- A literal's elements, laid out. -/
def litK (b : Bool) (v : V) (K : V → Prop) : Prop := match b with
  | true => (match v with
    | .list sz xs => deepK.deepL xs fun xs => K (.list sz xs)
    | .gl n g sz xs => deepK.deepL xs fun xs => K (.gl n g sz xs)
    | v => K v)
  | false => K v
theorem litK_eq (b : Bool) (v : V) (K : V → Prop) : litK b v K = K v := by
  have hL : ∀ (xs : List V) (K : List V → Prop), deepK.deepL xs K = K xs := by
    intro xs
    induction xs with
    | nil => intro K; rfl
    | cons x xs ih => intro K; rw [deepK.deepL, deepK_eq _ x (Nat.le_refl _), ih]
  cases b
  · rfl
  · cases v <;> first
      | rfl
      | exact hL _ _
def isDeep (ty : TypeId → TI) (md : Nat → Md) (d : Tmp) : Op → Bool
  | .build _ _ => true
  | .makeInterface _ _ => true
  | .load T _ => match (ty T).td with
    | .strct _ => true
    | .arr _ _ => (match md d with | .ls => true | _ => false)
    | _ => false
  | _ => false
def layK (b : Bool) (v : V) (K : V → Prop) : Prop := match b with
  | true => deepK v K
  | false => K v
theorem layK_eq (b : Bool) (v : V) (K : V → Prop) : layK b v K = K v := by
  cases b
  · rfl
  · exact deepK_eq _ v (Nat.le_refl _) K

/-- From one state to another that says less. -/
def Le (cf : Cfg) (st st' : St) : Prop :=
  ∀ (c0 : Cx) (w0 : World) (c : Cx) (a : Act) (w : World), Inv cf.G cf.N c0 w0 st c a w → ∃ c', Inv cf.G cf.N c0 w0 st' c' a w
theorem Le.refl (cf : Cfg) (st : St) : Le cf st st := fun _ _ c _ _ h => ⟨c, h⟩

structure LoopOK (cf : Cfg) (body : Env → Mem → (Exit → Env → Mem → Prop) → Prop) (env : Env) (mem : Mem) (Q : Exit → Env → Mem → Prop) : Prop where
  ex : ∃ J : St → Nat → Prop, (∃ st1 n, Le cf ⟨env, mem⟩ st1 ∧ J st1 n) ∧ ∀ st n, J st n → body st.env st.mem (fun e env' mem' => match e with
    | .normal => ∃ st1 n', Le cf ⟨env', mem'⟩ st1 ∧ J st1 n' ∧ n' < n
    | e => Q e env' mem')

/-- A function's results, of a state. -/
def resR (cf : Cfg) (st : St) : List ResultVar → List V → (List V → Prop) → Prop
  | [], acc, K => K acc.reverse
  | .tmp t :: rest, acc, K => forceK (st.env t) fun v => resR cf st rest (v :: acc) K
  | .cell a t :: rest, acc, K => (loadR cf.ty cf.md t st.mem (st.env a)).vc fun v => forceK v fun v => resR cf st rest (v :: acc) K

def one : List V → V
  | [v] => v
  | vs => .tup vs

structure RetOK (cf : Cfg) (rs : List ResultVar) (Post : V → Mem → Prop) (env : Env) (mem : Mem) : Prop where
  ex : ∃ st1, Le cf ⟨env, mem⟩ st1 ∧ resR cf st1 rs [] fun vs => Post (one vs) st1.mem

/-- A library variable's value. -/
def gfind : Given → Nat → Option Value
  | [], _ => none
  | (g, o, v) :: G, k => match Nat.beq g k, Nat.beq o 0 with | true, true => some v | _, _ => gfind G k
theorem gfind_mem {G : Given} {k : Nat} {v : Value} (h : gfind G k = some v) : (k, 0, v) ∈ G := by
  induction G with
  | nil => cases h
  | cons p G ih =>
    obtain ⟨g, o, u⟩ := p
    unfold gfind at h
    split at h
    · rename_i h1 h2
      injection h with h
      rw [← Nat.eq_of_beq_eq_true h1, ← Nat.eq_of_beq_eq_true h2, ← h]
      simp
    · simp [ih h]
def gV : Value → V
  | .iface t x => .iface t (constV x)
  | v => constV v
theorem gV_R (c : Cx) (v : Value) : R c (gV v) v := by
  cases v with
  | iface t x => exact .iface t _ x (constV_R c x)
  | _ => simp only [gV]; exact constV_R c _

/-! ### Operations -/
inductive Gd where
  | want
  | skip
  | bool (t : Nat) (b w : Bool)
  | fail
def guardV (ops : Array Oper) (env : Env) : Option (Nat × Bool) → Gd
  | none => .want
  | some (j, w) => match ops.toList[j]? with
    | some o => match o.dst with
      | some t => match env t with
        | .bool b => .bool t b w
        | .lit (.tuple _) => .skip
        | _ => .fail
      | none => .fail
    | none => .fail

/-- A slot is written. -/
def fin (cf : Cfg) (d : Option Tmp) (env : Env) (v : V) (K : Env → Prop) : Prop := match d with
  | none => K env
  | some d => match Nat.ble (d + 1) cf.N with
    | true => newK v fun v => K (upd env d v)
    | false => False

/-- A test: what is known of its result is written down. -/
def setB (env : Env) (c : Operand) (b : Bool) : Env := match c with
  | .tmp t => upd env t (.bool b)
  | _ => env
def setK (env : Env) (c : Operand) (b : Bool) (K : Env → Prop) : Prop := match c with
  | .tmp t => K (upd env t (.bool b))
  | _ => K env
theorem setK_eq (env : Env) (c : Operand) (b : Bool) (K : Env → Prop) : setK env c b K = K (setB env c b) := by cases c <;> rfl

def memK (md : Nat → Md) (mem : Mem) (N : Option Blk) (d : Tmp) (K : Mem → Prop) : Prop := match N with
  | some b => blkK b fun b => rowK (md d) b fun b => K (mupd mem d b)
  | none => K mem

/-- Operations that ask for nothing. -/
def triv (ty : TypeId → TI) : Op → Bool
  | .alloc _ => true
  | .buildSlice _ _ _ => true
  | .convert _ _ _ => true
  | .box T _ => (match (ty T).td with | .arr _ _ => false | _ => true)
  | _ => false
def obK (b : Bool) (p X : Prop) : Prop := match b with
  | true => X
  | false => p ∧ X
theorem triv_evA {ty : TypeId → TI} {mu : Nat → Md} {ρ : Operand → V} {m : Nat → Option Blk} {d : Nat} {op : Op} {p : Prop} {v : V} {N : Option Blk} (h : triv ty op = true) (he : evA ty mu ρ m d op = some (p, v, N)) : p := by
  cases op with
  | alloc T => simp only [evA] at he; split at he <;> simp_all
  | buildSlice T len parts => simp only [evA] at he; (repeat' (split at he)) <;> simp_all
  | convert src dst x => simp only [evA] at he; (repeat' (split at he)) <;> simp_all
  | box T x =>
    simp only [evA] at he
    split at he
    · rename_i q b hp hb
      simp only [Option.some.injEq, Prod.mk.injEq] at he
      obtain ⟨rfl, _, _⟩ := he
      simp only [triv] at h
      unfold boxBlk at hb
      revert h hb
      cases (ty T).td <;> simp only [] <;> intro h hb <;> first
        | (cases hb; done)
        | (cases h; done)
        | (split at hb <;> simp_all)
    · cases he
  | _ => simp [triv] at h
theorem obK_spec {ty : TypeId → TI} {mu : Nat → Md} {ρ : Operand → V} {m : Nat → Option Blk} {d : Nat} {op : Op} {p X : Prop} {v : V} {N : Option Blk} (he : evA ty mu ρ m d op = some (p, v, N)) (h : obK (triv ty op) p X) : p ∧ X := by
  cases ht : triv ty op with
  | true => rw [ht] at h; exact ⟨triv_evA ht he, h⟩
  | false => rw [ht] at h; exact h

/-- A test. -/
def brK (b : Bool) (X Y : Prop) : Prop := Bool.rec (motive := fun _ => Prop) Y X b
theorem brK_cases {b : Bool} {X Y : Prop} (h : brK b X Y) : (b = true ∧ X) ∨ (b = false ∧ Y) := by
  cases b
  · exact .inr ⟨rfl, h⟩
  · exact .inl ⟨rfl, h⟩
section
variable {X Y : Prop}
theorem brb {b : Bool} (h1 : b = true → X) (h2 : b = false → Y) : Bool.rec (motive := fun _ => Prop) Y X b := by
  cases b
  · exact h2 rfl
  · exact h1 rfl
theorem brd {p : Prop} [d : Decidable p] (h1 : p → X) (h2 : ¬ p → Y) : Bool.rec (motive := fun _ => Prop) Y X (@decide p d) := by
  by_cases h : p
  · rw [decide_eq_true h]; exact h1 h
  · rw [decide_eq_false h]; exact h2 h
theorem bri {m n : Int} (h1 : m = n → X) (h2 : m ≠ n → Y) : Bool.rec (motive := fun _ => Prop) Y X (m == n) := by
  by_cases h : m = n
  · rw [beq_iff_eq.2 h]; exact h1 h
  · rw [beq_eq_false_iff_ne.2 h]; exact h2 h
theorem brn {m n : Int} (h1 : m ≠ n → X) (h2 : m = n → Y) : Bool.rec (motive := fun _ => Prop) Y X (m != n) := by
  by_cases h : m = n
  · rw [bne_eq_false_iff_eq.2 h]; exact h2 h
  · rw [bne_iff_ne.2 h]; exact h1 h
theorem brs {a b : List UInt8} (h1 : a = b → X) (h2 : a ≠ b → Y) : Bool.rec (motive := fun _ => Prop) Y X (a == b) := by
  by_cases h : a = b
  · rw [beq_iff_eq.2 h]; exact h1 h
  · rw [beq_eq_false_iff_ne.2 h]; exact h2 h
theorem brsn {a b : List UInt8} (h1 : a ≠ b → X) (h2 : a = b → Y) : Bool.rec (motive := fun _ => Prop) Y X (!(a == b)) := by
  by_cases h : a = b
  · rw [beq_iff_eq.2 h]; exact h2 h
  · rw [beq_eq_false_iff_ne.2 h]; exact h1 h
theorem brnot {b : Bool} (h : Bool.rec (motive := fun _ => Prop) X Y b) : Bool.rec (motive := fun _ => Prop) Y X (!b) := by
  cases b <;> exact h
end

def vcOp (cf : Cfg) (o : Oper) (env : Env) (mem : Mem) (K : Env → Mem → Prop) : Prop :=
  match o.op with
  | .store T a x => forceK (evO env x) fun x' => (storeR cf.ty cf.md T mem (evO env a) x').vc cf.md fun n b => fin cf o.dst env (.lit undef) fun env => K env (mupd mem n b)
  | .pick c a b => match evO env c with
    | .bool t => brK t (setK env c true fun env' => fin cf o.dst env' (evO env a) fun env => K env mem)
      (setK env c false fun env' => fin cf o.dst env' (evO env b) fun env => K env mem)
    | _ => False
  | .call ⟨.value x, args, _⟩ => match evO env x with
    | .fn f caps => CallOK cf.P cf.G f (args.toList.map (evO env) ++ caps) mem fun r m => fin cf o.dst env r fun env => K env m
    | _ => False
  | .call ⟨.invoke x name, args, _⟩ => match evO env x with
    | .iface t v => ∃ f v', InvOK cf.P t name v f v' ∧ CallOK cf.P cf.G f (v' :: args.toList.map (evO env)) mem fun r m => fin cf o.dst env r fun env => K env m
    | _ => False
  | .load T (.global g) => match gfind cf.G g, (cf.ty T).td.isAgg, (cf.ty T).td.isUnk with
    | some v, false, false => fin cf o.dst env (gV v) fun env => K env mem
    | _, _, _ => False
  | .typeAssert x _ T true => match evO env x with
    | .iface t v => ∃ b, AsrOK cf.P t T b ∧ match b with
      | true => fin cf o.dst env (.tup [.iface t v, .bool true]) fun env => K env mem
      | false => fin cf o.dst env (.tup [.nili, .bool false]) fun env => K env mem
    | _ => False
  | .call ⟨.builtin .append, args, ats⟩ => match args.toList, ats.toList, o.dst with
    | [x, y], [t, t2], some d => match Nat.ble 1000 d, appendR cf.ty cf.md t t2 mem d (evO env x) (evO env y) with
      | false, some ⟨p, v, n, b⟩ => p ∧ fin cf (some d) env v fun env => blkK b fun b => K env (mupd mem n b)
      | _, _ => False
    | _, _, _ => False
  | op => match o.dst with
    | none => (evQ cf.ty cf.md (evO env) mem op).vc fun _ => K env mem
    | some d => match (match Nat.ble 1000 d with
        | true => none
        | false => evA cf.ty cf.md (evO env) mem d op) with
      | some (p, v, N) => obK (triv cf.ty op) p (litK (isLit op) v fun v => fin cf (some d) env v fun env => memK cf.md mem N d fun mem => K env mem)
      | none => (evQ cf.ty cf.md (evO env) mem op).vc fun v => layK (isDeep cf.ty cf.md d op) v fun v => fin cf (some d) env v fun env => K env mem

def vcOps (cf : Cfg) (ops : Array Oper) : List Oper → Env → Mem → (Env → Mem → Prop) → Prop
  | [], env, mem, K => K env mem
  | o :: rest, env, mem, K => match guardV ops env o.guard with
    | .want => vcOp cf o env mem fun env mem => vcOps cf ops rest env mem K
    | .skip => fin cf o.dst env (.lit undef) fun env => vcOps cf ops rest env mem K
    | .bool t b w => match b with
      | true => match w with
        | true => vcOp cf o (upd env t (.bool true)) mem fun env mem => vcOps cf ops rest env mem K
        | false => fin cf o.dst (upd env t (.bool true)) (.lit undef) fun env => vcOps cf ops rest env mem K
      | false => match w with
        | false => vcOp cf o (upd env t (.bool false)) mem fun env mem => vcOps cf ops rest env mem K
        | true => fin cf o.dst (upd env t (.bool false)) (.lit undef) fun env => vcOps cf ops rest env mem K
    | .fail => False

/-- A region that draws its order. -/
structure DrawOK (cf : Cfg) (id : Nat) (ops : Array Oper) (env : Env) (mem : Mem) (Q : Exit → Env → Mem → Prop) : Prop where
  ok : ∀ (c0 : Cx) (w0 : World) (c : Cx) (a : Act) (w : World), Inv cf.G cf.N c0 w0 ⟨env, mem⟩ c a w → ∀ Q' : Exit → Act → World → Prop, (∀ e env' mem' c' a' w', Inv cf.G cf.N c0 w0 ⟨env', mem'⟩ c' a' w' → Q e env' mem' → Q' e a' w') → (Code.region id ops true).wp cf.P Q' a w

def vcC (cf : Cfg) : Code → Env → Mem → (Exit → Env → Mem → Prop) → Prop
  | .skip, env, mem, Q => Q .normal env mem
  | .label _, env, mem, Q => Q .normal env mem
  | .exit id, env, mem, Q => Q (.exit id) env mem
  | .ret, env, mem, Q => Q .ret env mem
  | .seq x y, env, mem, Q => vcC cf x env mem fun e env' mem' => match e with
    | .normal => vcC cf y env' mem' Q
    | e => Q e env' mem'
  | .cond c x y, env, mem, Q => match evO env c with
    | .bool b => match b with
      | true => setK env c true fun env => vcC cf x env mem Q
      | false => setK env c false fun env => vcC cf y env mem Q
    | _ => False
  | .block id x, env, mem, Q => vcC cf x env mem fun e env' mem' => match e with
    | .exit id' => match Nat.beq id' id with
      | true => Q .normal env' mem'
      | false => Q (.exit id') env' mem'
    | e => Q e env' mem'
  | .region _ ops false, env, mem, Q => vcOps cf ops ops.toList env mem fun env mem => Q .normal env mem
  | .region id ops true, env, mem, Q => DrawOK cf id ops env mem Q
  | .loop x, env, mem, Q => LoopOK cf (vcC cf x) env mem Q
  | _, _, _, _ => False

/-! ### The same, by the recursors (so that the kernel's steps are the elaborator's) -/
noncomputable def vcOpsR (cf : Cfg) (ops : Array Oper) (l : List Oper) : Env → Mem → (Env → Mem → Prop) → Prop :=
  List.rec (motive := fun _ => Env → Mem → (Env → Mem → Prop) → Prop) (fun env mem K => K env mem) (fun o _ ih env mem K => match guardV ops env o.guard with
    | .want => vcOp cf o env mem fun env mem => ih env mem K
    | .skip => fin cf o.dst env (.lit undef) fun env => ih env mem K
    | .bool t b w => brK b (brK w
        (vcOp cf o (upd env t (.bool true)) mem fun env mem => ih env mem K)
        (fin cf o.dst (upd env t (.bool true)) (.lit undef) fun env => ih env mem K))
      (brK w
        (fin cf o.dst (upd env t (.bool false)) (.lit undef) fun env => ih env mem K)
        (vcOp cf o (upd env t (.bool false)) mem fun env mem => ih env mem K))
    | .fail => False) l
theorem vcOpsR_eq (cf : Cfg) (ops : Array Oper) : ∀ l, vcOpsR cf ops l = vcOps cf ops l := by
  intro l
  induction l with
  | nil => rfl
  | cons o rest ih =>
    funext env mem K
    unfold vcOps
    rw [← ih]
    show (match guardV ops env o.guard with | .want => _ | .skip => _ | .bool t b w => _ | .fail => _) = _
    cases guardV ops env o.guard with
    | bool t b w => cases b <;> cases w <;> rfl
    | _ => rfl
noncomputable def vcCR (cf : Cfg) (c : Code) : Env → Mem → (Exit → Env → Mem → Prop) → Prop :=
  Code.rec (motive := fun _ => Env → Mem → (Exit → Env → Mem → Prop) → Prop)
    (fun env mem Q => Q .normal env mem)
    (fun id ops draw env mem Q => match draw with
      | false => vcOpsR cf ops ops.toList env mem fun env mem => Q .normal env mem
      | true => DrawOK cf id ops env mem Q)
    (fun _ _ ihx ihy env mem Q => ihx env mem fun e env' mem' => match e with
      | .normal => ihy env' mem' Q
      | e => Q e env' mem')
    (fun c _ _ ihx ihy env mem Q => match evO env c with
      | .bool b => brK b (setK env c true fun env => ihx env mem Q) (setK env c false fun env => ihy env mem Q)
      | _ => False)
    (fun id _ ih env mem Q => ih env mem fun e env' mem' => match e with
      | .exit id' => match Nat.beq id' id with
        | true => Q .normal env' mem'
        | false => Q (.exit id') env' mem'
      | e => Q e env' mem')
    (fun _ ih env mem Q => LoopOK cf ih env mem Q)
    (fun _ _ _ _ _ _ _ _ _ => False)
    (fun id env mem Q => Q (.exit id) env mem)
    (fun _ _ _ _ _ => False)
    (fun _ env mem Q => Q .normal env mem)
    (fun _ _ _ _ => False)
    (fun env mem Q => Q .ret env mem)
    (fun _ _ _ _ => False) c
theorem vcCR_eq (cf : Cfg) : ∀ c, vcCR cf c = vcC cf c := by
  intro c
  induction c with
  | region id ops draw =>
    funext env mem Q
    cases draw with
    | false => unfold vcC; rw [← vcOpsR_eq]; rfl
    | true => unfold vcC; rfl
  | seq x y h1 h2 => funext env mem Q; unfold vcC; rw [← h1, ← h2]; rfl
  | cond c x y h1 h2 =>
    funext env mem Q
    unfold vcC
    rw [← h1, ← h2]
    show (match evO env c with | .bool b => _ | _ => _) = _
    cases evO env c with
    | bool b => cases b <;> rfl
    | _ => rfl
  | block id x h => funext env mem Q; unfold vcC; rw [← h]; rfl
  | loop x h => funext env mem Q; unfold vcC; rw [← h]; rfl
  | _ => funext env mem Q; unfold vcC; rfl
end Go.Ab

namespace Go.Ab

section
variable {cf : Cfg} {c0 c : Cx} {w0 w : World} {st : St} {a : Act}

theorem R_evO (h : Inv cf.G cf.N c0 w0 st c a w) (x : Operand) : R c (evO st.env x) (a.eval x) := by
  cases x with
  | tmp t => exact h.env t
  | const v => exact constV_R c v
  | global g => exact .lit _
  | func f => exact .fn f [] [] rfl (by simp)

theorem put_env {env : Nat → V} {dst : Option Tmp} {v : V} {u : Value} {a : Act} {c : Cx} (h : ∀ t, R c (env t) (a.tmps.getD t undef)) (hv : R c v u) (hd : ∀ d, dst = some d → d < a.tmps.size) :
    ∀ t, R c (put env dst v t) ((a.put dst u).tmps.getD t undef) := by
  intro t
  cases dst with
  | none => exact h t
  | some d =>
    have hd := hd d rfl
    simp only [put, upd, Act.put]
    by_cases ht : t = d
    · subst ht
      have : Nat.beq t t = true := Nat.beq_refl t
      rw [this]
      simpa [Array.getD, hd] using hv
    · have : Nat.beq t d = false := by
        cases hb : Nat.beq t d with
        | false => rfl
        | true => exact absurd (Nat.eq_of_beq_eq_true hb) ht
      rw [this]
      have := h t
      simp only [Array.getD_eq_getD_getElem?] at this ⊢
      rw [Array.getElem?_setIfInBounds, if_neg (by omega)]
      exact this

theorem Inv.putD (h : Inv cf.G cf.N c0 w0 st c a w) {dst : Option Tmp} {v : V} {u : Value} (hv : R c v u) (hd : ∀ d, dst = some d → d < cf.N) : Inv cf.G cf.N c0 w0 ⟨put st.env dst v, st.mem⟩ c (a.put dst u) w where
  mem := h.mem
  sim := h.sim
  env := put_env h.env hv (by rw [h.size]; exact hd)
  ext := h.ext
  keep := h.keep
  good := h.good
  size := by rw [← h.size]; cases dst <;> simp [Act.put]
  defers := by rw [← h.defers]; cases dst <;> simp [Act.put]

/-- A step of the world. -/
theorem Inv.go (h : Inv cf.G cf.N c0 w0 st c a w) {c' : Cx} {w' : World} (he : Ext c w c' w') (hm : Mono c c') (hs : Sim c' w') (hw : ∀ n, 1000 ≤ n → c'.mem n ≠ none → c.mem n ≠ none) : Inv cf.G cf.N c0 w0 ⟨st.env, c'.mem⟩ c' a w' where
  mem := rfl
  sim := hs
  env := fun t => hm.R (h.env t)
  ext := h.ext.trans he
  keep := h.keep.step fun n hn hne => ⟨hw n hn hne, hm.at_ n⟩
  good := fun p hp => hm.S _ _ _ (h.good p hp)
  size := h.size
  defers := h.defers

/-- What a slot is known to hold may be written down. -/
theorem Inv.setT (h : Inv cf.G cf.N c0 w0 st c a w) {t : Nat} {v : V} (hv : st.env t = v) : Inv cf.G cf.N c0 w0 ⟨upd st.env t v, st.mem⟩ c a w := by
  have : upd st.env t v = st.env := by
    funext k
    unfold upd
    cases hb : Nat.beq k t with
    | false => rfl
    | true => rw [Nat.eq_of_beq_eq_true hb, hv]
  rw [this]
  exact h
theorem Inv.setB (h : Inv cf.G cf.N c0 w0 st c a w) {x : Operand} {b : Bool} (hx : evO st.env x = .bool b) : Inv cf.G cf.N c0 w0 ⟨setB st.env x b, st.mem⟩ c a w := by
  cases x with
  | tmp t => exact h.setT hx
  | const v => exact h
  | global g => exact h
  | func f => exact h

theorem fin_spec {d : Option Tmp} {env : Env} {v : V} {K : Env → Prop} (h : fin cf d env v K) : K (put env d v) ∧ ∀ t, d = some t → t < cf.N := by
  unfold fin at h
  split at h
  · exact ⟨h, fun t e => by cases e⟩
  · split at h
    · rename_i d hb
      have := Nat.le_of_ble_eq_true hb
      rw [newK_eq] at h
      exact ⟨h, fun t e => by cases e; exact this⟩
    · exact h.elim
end

/-- **An operation**: what the condition says comes. -/
theorem vcOp_sound {cf : Cfg} (hty : ∀ t, TyOk cf.P t (cf.ty t)) {c0 c : Cx} {w0 w : World} {env : Env} {mem : Mem} {a : Act} {o : Oper} {K : Env → Mem → Prop} (h : vcOp cf o env mem K) (hi : Inv cf.G cf.N c0 w0 ⟨env, mem⟩ c a w)
    {K' : Act → World → Prop} {Q : Exit → Act → World → Prop} (hk : ∀ env' mem' c' a' w', K env' mem' → Inv cf.G cf.N c0 w0 ⟨env', mem'⟩ c' a' w' → K' a' w') : o.wp cf.P a w K' Q := by
  unfold vcOp at h
  unfold Oper.wp
  split at h
  · rename_i T x y hop
    rw [forceK_eq] at h
    obtain ⟨n, b, h1, h2⟩ := SR.of_vc h
    obtain ⟨h2, hd⟩ := fin_spec h2
    rw [← show c.mem = mem from hi.mem] at h1
    obtain ⟨w', c', e1, e2⟩ := storeR_sound (P := cf.P) hty hi.sim (R_evO hi x) (R_evO hi y) h1
    have : (execOp a.eval o).run cf.P w = .ok .skip w' := by simp [execOp, hop, e1]
    rw [this]
    refine hk _ _ c' _ w' h2 ?_
    have := (hi.go e2.ext e2.mono e2.sim e2.was).putD (dst := o.dst) (.lit undef) hd
    rw [e2.mem, hi.mem] at this
    exact this
  · rename_i x y z hop
    split at h
    · rename_i t hb
      have hx := R_evO hi x
      rw [show evO (St.mk env mem).env x = _ from hb] at hx
      generalize hev : a.eval x = ev at hx
      cases hx
      rcases brK_cases h with ⟨rfl, h7⟩ | ⟨rfl, h7⟩ <;> clear h
      · rw [setK_eq] at h7
        obtain ⟨h, hd⟩ := fin_spec h7
        have : (execOp a.eval o).run cf.P w = .ok (.value (a.eval y)) w := by simp [execOp, hop, hev, asBool]
        rw [this]
        exact hk _ _ c _ w h ((hi.setB hb).putD (R_evO hi y) hd)
      · rw [setK_eq] at h7
        obtain ⟨h, hd⟩ := fin_spec h7
        have : (execOp a.eval o).run cf.P w = .ok (.value (a.eval z)) w := by simp [execOp, hop, hev, asBool]
        rw [this]
        exact hk _ _ c _ w h ((hi.setB hb).putD (R_evO hi z) hd)
    · exact h.elim
  · rename_i x args ats hop
    split at h
    · rename_i f caps hx
      have hr := R_evO hi x
      rw [show evO (St.mk env mem).env x = _ from hx] at hr
      generalize hev : a.eval x = ev at hr
      cases hr with
      | fn _ _ vs hl hrs =>
      have : (execOp a.eval o).run cf.P w = (callFunc f ((args.toList.map a.eval ++ vs).toArray)).run cf.P w := by
        have hargs : (args.toList.map a.eval ++ vs).toArray = (args.map a.eval) ++ vs.toArray := by simp
        rw [hargs]
        simp [execOp, hop, resolve, Deferred.ofValue, hev, invoke]
      rw [this]
      refine (h.run c w _ hi.sim hi.mem hi.good ⟨by simp [hl], fun i x v g1 g2 => ?_⟩).upon fun v w' ⟨c', r, g1, g2, g3, g4, g5, g6⟩ => ?_
      · by_cases hlt : i < args.toList.length
        · rw [List.getElem?_append_left (by simpa using hlt), List.getElem?_map] at g1 g2
          obtain ⟨y, hy, rfl⟩ := Option.map_eq_some_iff.1 g1
          rw [hy] at g2
          injection g2 with g2
          subst g2
          exact R_evO hi y
        · rw [List.getElem?_append_right (by simpa using hlt)] at g1 g2
          simp only [List.length_map] at g1 g2
          exact hrs _ x v g1 g2
      · obtain ⟨g1, hd⟩ := fin_spec g1
        exact hk _ _ c' _ w' g1 ((hi.go g2 g3 g4 g6).putD g5 hd)
    · exact h.elim
  · rename_i x name args ats hop
    split at h
    · rename_i t y hx
      obtain ⟨f, y', hinv, h⟩ := h
      have hr := R_evO hi x
      rw [show evO (St.mk env mem).env x = _ from hx] at hr
      generalize hev : a.eval x = ev at hr
      cases hr with
      | iface _ _ u hr =>
      obtain ⟨u2, hm, hr⟩ := hinv c u w hr
      have : (execOp a.eval o).run cf.P w = (callFunc f ((u2 :: args.toList.map a.eval).toArray)).run cf.P w := by
        have hargs : (u2 :: args.toList.map a.eval).toArray = #[u2] ++ (args.map a.eval) := by simp
        rw [hargs]
        simp only [execOp, hop, resolve, Sem.run_bind, Sem.run_pure, Result.andThen_ok, invoke, hev]
        simp only [Array.getElem?_append, callMethod]
        have hp : (program : Sem Program).run cf.P w = .ok cf.P w := rfl
        have hx : (Array.map a.eval args).extract 0 args.size = Array.map a.eval args := by
          rw [show args.size = (Array.map a.eval args).size by simp]; exact Array.extract_size
        simp [hm, hp, hx, Result.andThen_ok]
      rw [this]
      refine (h.run c w _ hi.sim hi.mem hi.good ⟨by simp, fun i x v g1 g2 => ?_⟩).upon fun v w' ⟨c', r, g1, g2, g3, g4, g5, g6⟩ => ?_
      · cases i with
        | zero => simp only [List.getElem?_cons_zero, Option.some.injEq] at g1 g2; subst g1 g2; exact hr
        | succ i =>
          simp only [List.getElem?_cons_succ, List.getElem?_map] at g1 g2
          obtain ⟨y, hy, rfl⟩ := Option.map_eq_some_iff.1 g1
          rw [hy] at g2
          simp only [Option.map_some, Option.some.injEq] at g2
          subst g2
          exact R_evO hi y
      · obtain ⟨g1, hd⟩ := fin_spec g1
        exact hk _ _ c' _ w' g1 ((hi.go g2 g3 g4 g6).putD g5 hd)
    · exact h.elim
  · rename_i T g hop
    split at h
    · rename_i v hg ha hu
      obtain ⟨h, hd⟩ := fin_spec h
      have hcell := hi.sim.stab g 0 v (hi.good _ (gfind_mem hg))
      have hrun : (Instr.loadAt T (a.eval (.global g))).run cf.P w = .ok v w := by
        show (Instr.loadAt T (.pointer (some ⟨g, 0, none⟩))).run cf.P w = .ok v w
        rw [run_loadAt, run_loadVar_leaf (hty T) (TD.isUnk_false hu) ha hcell]
      have : (execOp a.eval o).run cf.P w = .ok (.value v) w := by simp [execOp, hop, hrun]
      rw [this, Oper.upon_value]
      exact hk _ _ c _ w h (hi.putD (gV_R c v) hd)
    · exact h.elim
  · rename_i x xT T hop
    split at h
    · rename_i t y hx
      obtain ⟨b, hasr, h⟩ := h
      have hr := R_evO hi x
      rw [show evO (St.mk env mem).env x = _ from hx] at hr
      generalize hev : a.eval x = ev at hr
      cases hr with
      | iface _ _ u hr =>
      have hm := hasr u xT w
      cases b with
      | true =>
        obtain ⟨h, hd⟩ := fin_spec h
        have : (execOp a.eval o).run cf.P w = .ok (.value (.tuple #[.iface t u, .bool true])) w := by simp [execOp, hop, hev, hm]
        rw [this, Oper.upon_value]
        refine hk _ _ c _ w h (hi.putD (.tup _ [.iface t u, .bool true] rfl fun i x v g1 g2 => ?_) hd)
        match i with
        | 0 => simp only [List.getElem?_cons_zero, Option.some.injEq] at g1 g2; subst g1 g2; exact .iface _ _ _ hr
        | 1 => simp only [List.getElem?_cons_succ, List.getElem?_cons_zero, Option.some.injEq] at g1 g2; subst g1 g2; exact .bool _
        | i + 2 => simp at g1
      | false =>
        obtain ⟨h, hd⟩ := fin_spec h
        have : (execOp a.eval o).run cf.P w = .ok (.value (.tuple #[.nilIface, .bool false])) w := by simp [execOp, hop, hev, hm]
        rw [this, Oper.upon_value]
        refine hk _ _ c _ w h (hi.putD (.tup _ [.nilIface, .bool false] rfl fun i x v g1 g2 => ?_) hd)
        match i with
        | 0 => simp only [List.getElem?_cons_zero, Option.some.injEq] at g1 g2; subst g1 g2; exact .nili
        | 1 => simp only [List.getElem?_cons_succ, List.getElem?_cons_zero, Option.some.injEq] at g1 g2; subst g1 g2; exact .bool _
        | i + 2 => simp at g1
    · exact h.elim
  · rename_i args ats hop
    split at h
    · rename_i x y t t2 d ha1 ha2 hdst
      split at h
      · rename_i p v n b hd1 hap
        obtain ⟨h1, h2⟩ := h
        obtain ⟨h2, hd⟩ := fin_spec h2
        rw [blkK_eq] at h2
        have hd1 : d < 1000 := by
          rcases Nat.lt_or_ge d 1000 with h | h
          · exact h
          · rw [Nat.ble_eq_true_of_le h] at hd1; cases hd1
        rw [← show c.mem = mem from hi.mem] at hap
        obtain ⟨u, w', c', e1, e2, e3⟩ := appendR_sound (P := cf.P) (tt := o.type) hty hi.sim hd1 (R_evO hi x) (R_evO hi y) hap h1
        obtain ⟨cs, hrun⟩ := run_builtin (P := cf.P) (w := w) (e := a.eval) hop
        have hA : args = #[x, y] := by rw [← Array.toArray_toList (xs := args), ha1]
        have hT : ats = #[t, t2] := by rw [← Array.toArray_toList (xs := ats), ha2]
        have : (execOp a.eval o).run cf.P w = .ok (.value u) w' := by
          rw [hrun, hA, hT]
          simp only [builtin, Sem.run_bind]
          simp [e1]
        rw [this]
        refine hk _ _ c' _ w' h2 ?_
        have := (hi.go e2.ext e2.mono e2.sim e2.was).putD (dst := some d) e3 hd
        rw [hdst]
        rw [e2.mem, hi.mem] at this
        exact this
      · exact h.elim
    · exact h.elim
  · split at h
    · rename_i hdst
      obtain ⟨v, h1, h2⟩ := Res.of_vc h
      obtain ⟨u, e1, e2⟩ := evQ_sound (P := cf.P) hty (e := a.eval) (o := o) (fun x _ => R_evO hi x) (fun n b hb => by rw [hi.mem]; exact hb) hi.sim h1
      rw [e1, Oper.upon_value, hdst]
      exact hk _ _ c _ w h2 hi
    · rename_i d hdst
      split at h
      · rename_i p v N hA
        obtain ⟨h1, h2⟩ := (show p ∧ _ from by
          split at hA
          · cases hA
          · exact obK_spec hA h)
        rw [litK_eq] at h2
        obtain ⟨h2, hd⟩ := fin_spec h2
        split at hA
        · cases hA
        · rename_i hd1
          have hd1 : d < 1000 := by
            rcases Nat.lt_or_ge d 1000 with h | h
            · exact h
            · rw [Nat.ble_eq_true_of_le h] at hd1; cases hd1
          obtain ⟨u, w', c', e1, e2, e3⟩ := evA_sound (P := cf.P) hty (e := a.eval) (o := o) (fun x _ => R_evO hi x) (by rw [hi.mem]) hi.sim hA h1
          rw [e1, Oper.upon_value, hdst]
          have hm := e2.mem
          cases N with
          | none =>
            simp only [Option.map_none] at hm
            have hwas : ∀ n, 1000 ≤ n → c'.mem n ≠ none → c.mem n ≠ none := fun n hn hne => by rw [hm] at hne; exact hne
            have := (hi.go e2.ext e2.mono e2.sim hwas).putD (dst := some d) e3 hd
            rw [hm, hi.mem] at this
            exact hk _ _ c' _ w' h2 this
          | some b =>
            simp only [Option.map_some] at hm
            have hwas : ∀ n, 1000 ≤ n → c'.mem n ≠ none → c.mem n ≠ none := fun n hn hne => by
              rw [hm, mupd_other _ _ (show n ≠ d from fun e => absurd hn (Nat.not_le.2 (e ▸ hd1)))] at hne; exact hne
            have := (hi.go e2.ext e2.mono e2.sim hwas).putD (dst := some d) e3 hd
            rw [hm, hi.mem] at this
            simp only [memK, blkK_eq, rowK_eq] at h2
            exact hk _ _ c' _ w' h2 this
      · obtain ⟨v, h1, h2⟩ := Res.of_vc h
        rw [layK_eq] at h2
        obtain ⟨h2, hd⟩ := fin_spec h2
        obtain ⟨u, e1, e2⟩ := evQ_sound (P := cf.P) hty (e := a.eval) (o := o) (fun x _ => R_evO hi x) (fun n b hb => by rw [hi.mem]; exact hb) hi.sim h1
        rw [e1, Oper.upon_value, hdst]
        exact hk _ _ c _ w h2 (hi.putD e2 hd)

theorem R.bool_inv {c : Cx} {b : Bool} {v : Value} (h : R c (.bool b) v) : v = .bool b := by cases h; rfl
theorem R.lit_inv {c : Cx} {u v : Value} (h : R c (.lit u) v) : v = u := by cases h; rfl

theorem guard_at {cf : Cfg} {c0 c : Cx} {w0 w : World} {st : St} {a : Act} {ops : Array Oper} {o : Oper} (hi : Inv cf.G cf.N c0 w0 st c a w) :
    match guardV ops st.env o.guard with
    | .want => Region.wanted o (yielded ops a.tmps) = true
    | .skip => Region.wanted o (yielded ops a.tmps) = false
    | .bool t b w => st.env t = .bool b ∧ Region.wanted o (yielded ops a.tmps) = (b == w)
    | .fail => True := by
  unfold guardV
  cases hg : o.guard with
  | none => simp [Region.wanted, hg]
  | some p =>
    obtain ⟨j, wnt⟩ := p
    simp only
    cases hj : ops.toList[j]? with
    | none => simp
    | some o' =>
      have hj' : ops[j]? = some o' := by simpa using hj
      simp only
      cases hd : o'.dst with
      | none => simp
      | some t =>
        simp only
        have hr := hi.env t
        cases he : st.env t with
        | bool b =>
          rw [he] at hr
          have hv : a.tmps.getD t undef = .bool b := hr.bool_inv
          have ht : t < a.tmps.size := by
            rcases Nat.lt_or_ge t a.tmps.size with h | h
            · exact h
            · simp [Array.getD_eq_getD_getElem?, Array.getElem?_eq_none h, undef] at hv
          have hv2 : a.tmps[t]? = some (.bool b) := by
            simp [Array.getD_eq_getD_getElem?, ht] at hv
            simp [ht, hv]
          refine ⟨he, ?_⟩
          simp [Region.wanted, hg, yielded, hj', hd, hv2]
        | lit v =>
          cases v with
          | tuple xs =>
            rw [he] at hr
            have hv : a.tmps.getD t undef = .tuple xs := hr.lit_inv
            have hv2 : ∀ b, a.tmps[t]? ≠ some (.bool b) := by
              intro b hb
              simp [Array.getD_eq_getD_getElem?, hb] at hv
            have hy : yielded ops a.tmps j = none := by
              unfold yielded
              rw [hj']
              simp only [Option.bind_some, hd]
            simp [Region.wanted, hg, hy]
          | _ => trivial
        | _ => trivial

theorem vcOps_sound {cf : Cfg} (hty : ∀ t, TyOk cf.P t (cf.ty t)) {c0 : Cx} {w0 : World} {ops : Array Oper} {Q' : Exit → Act → World → Prop} {K : Env → Mem → Prop} (hk : ∀ env' mem' c' a' w', K env' mem' → Inv cf.G cf.N c0 w0 ⟨env', mem'⟩ c' a' w' → Q' .normal a' w') :
    ∀ (l : List Oper) (env : Env) (mem : Mem) (c : Cx) (a : Act) (w : World), vcOps cf ops l env mem K → Inv cf.G cf.N c0 w0 ⟨env, mem⟩ c a w → wpList cf.P ops Q' l a w
  | [], env, mem, c, a, w, h, hi => hk env mem c a w h hi
  | o :: rest, env, mem, c, a, w, h, hi => by
    have ih := vcOps_sound (ops := ops) hty hk rest
    unfold vcOps at h
    unfold wpList
    have hg := guard_at (ops := ops) (o := o) hi
    have skip : ∀ {env : Env} {mem : Mem} {c : Cx}, Inv cf.G cf.N c0 w0 ⟨env, mem⟩ c a w → fin cf o.dst env (.lit undef) (fun env => vcOps cf ops rest env mem K) → wpList cf.P ops Q' rest (a.put o.dst undef) w := fun hi h => by
      obtain ⟨h1, h2⟩ := fin_spec h
      exact ih _ _ _ _ _ h1 (hi.putD (.lit undef) h2)
    have want : ∀ {env : Env} {mem : Mem} {c : Cx}, Inv cf.G cf.N c0 w0 ⟨env, mem⟩ c a w → vcOp cf o env mem (fun env mem => vcOps cf ops rest env mem K) → o.wp cf.P a w (wpList cf.P ops Q' rest) Q' := fun hi h =>
      vcOp_sound hty h hi fun env' mem' c' a' w' g1 g2 => ih _ _ _ _ _ g1 g2
    simp only at hg
    split at h
    · rename_i hgv
      rw [hgv] at hg
      simp only [hg, if_true]
      exact .inl (want hi h)
    · rename_i hgv
      rw [hgv] at hg
      simp only [hg, Bool.false_eq_true, if_false]
      exact skip hi h
    · rename_i t b wn hgv
      rw [hgv] at hg
      obtain ⟨h1, h2⟩ := hg
      split at h
      · split at h
        · simp only [h2, BEq.rfl, if_true]
          exact .inl (want (hi.setT h1) h)
        · have : (true == false) = false := rfl
          simp only [h2, this, Bool.false_eq_true, if_false]
          exact skip (hi.setT h1) h
      · split at h
        · simp only [h2, BEq.rfl, if_true]
          exact .inl (want (hi.setT h1) h)
        · have : (false == true) = false := rfl
          simp only [h2, this, Bool.false_eq_true, if_false]
          exact skip (hi.setT h1) h
    · exact h.elim

/-- A loop, by a number that falls. -/
theorem wp_loop_falls {P : Program} {Q : Exit → Act → World → Prop} {a : Act} {w : World} {c : Code} (I : Nat → Act → World → Prop) (h0 : ∃ n, I n a w)
    (round : ∀ n a w, I n a w → c.wp P (Exit.then (fun a' w' => ∃ m, m < n ∧ I m a' w') Q) a w) : (Code.loop c).wp P Q a w := by
  have least : ∀ a w, (∃ n, I n a w) → ∃ n, I n a w ∧ ∀ m, I m a w → n ≤ m := by
    intro a w ⟨n, hn⟩
    induction n using Nat.strongRecOn with
    | _ n ih =>
      by_cases h : ∃ m, m < n ∧ I m a w
      · obtain ⟨m, h1, h2⟩ := h; exact ih m h1 h2
      · exact ⟨n, hn, fun m hm => by
          rcases Nat.lt_or_ge m n with h1 | h1
          · exact absurd ⟨m, h1, hm⟩ h
          · exact h1⟩
  have dec : ∀ a w, Decidable (∃ n, I n a w) := fun a w => Classical.propDecidable _
  let μ : Act → World → Nat := fun a w => if h : ∃ n, I n a w then Classical.choose (least a w h) else 0
  refine wp_loop (fun a w => ∃ n, I n a w) μ h0 fun a w h => ?_
  have hs := Classical.choose_spec (least a w h)
  have hμ : μ a w = Classical.choose (least a w h) := by simp only [μ]; rw [dif_pos h]
  refine wp_mono (round _ a w hs.1) fun e a' w' q => ?_
  cases e with
  | normal =>
    obtain ⟨m, h1, h2⟩ := q
    refine ⟨⟨m, h2⟩, ?_⟩
    have h' : ∃ n, I n a' w' := ⟨m, h2⟩
    have hμ' : μ a' w' = Classical.choose (least a' w' h') := by simp only [μ]; rw [dif_pos h']
    rw [hμ, hμ']
    have := (Classical.choose_spec (least a' w' h')).2 m h2
    omega
  | _ => exact q

/-- **A piece of code**: what the condition says comes. -/
theorem vcC_sound {cf : Cfg} (hty : ∀ t, TyOk cf.P t (cf.ty t)) {c0 : Cx} {w0 : World} : ∀ (code : Code) (env : Env) (mem : Mem) (c : Cx) (a : Act) (w : World) (Q : Exit → Env → Mem → Prop) (Q' : Exit → Act → World → Prop), vcC cf code env mem Q → Inv cf.G cf.N c0 w0 ⟨env, mem⟩ c a w →
    (∀ e env' mem' c' a' w', Q e env' mem' → Inv cf.G cf.N c0 w0 ⟨env', mem'⟩ c' a' w' → Q' e a' w') → code.wp cf.P Q' a w
  | .skip, env, mem, c, a, w, Q, Q', h, hi, hk => wp_skip (hk _ _ _ _ _ _ h hi)
  | .label _, env, mem, c, a, w, Q, Q', h, hi, hk => wp_label (hk _ _ _ _ _ _ h hi)
  | .exit id, env, mem, c, a, w, Q, Q', h, hi, hk => wp_exit (hk _ _ _ _ _ _ h hi)
  | .ret, env, mem, c, a, w, Q, Q', h, hi, hk => wp_ret (hk _ _ _ _ _ _ h hi)
  | .seq x y, env, mem, c, a, w, Q, Q', h, hi, hk => by
    unfold vcC at h
    refine wp_seq (vcC_sound hty x env mem c a w _ _ h hi fun e env' mem' c' a' w' q hi' => ?_)
    cases e with
    | normal => exact vcC_sound hty y env' mem' c' a' w' Q Q' q hi' hk
    | _ => exact hk _ _ _ _ _ _ q hi'
  | .cond x y z, env, mem, c, a, w, Q, Q', h, hi, hk => by
    unfold vcC at h
    split at h
    · rename_i b hb
      have hx := R_evO hi x
      rw [show evO (St.mk env mem).env x = _ from hb] at hx
      have hv : a.eval x = .bool b := hx.bool_inv
      split at h
      · rw [setK_eq] at h
        exact wp_cond_true hv (vcC_sound hty y _ _ c a w Q Q' h (hi.setB hb) hk)
      · rw [setK_eq] at h
        exact wp_cond_false hv (vcC_sound hty z _ _ c a w Q Q' h (hi.setB hb) hk)
    · exact h.elim
  | .block id x, env, mem, c, a, w, Q, Q', h, hi, hk => by
    unfold vcC at h
    refine wp_block (vcC_sound hty x env mem c a w _ _ h hi fun e env' mem' c' a' w' q hi' => ?_)
    cases e with
    | exit id' =>
      simp only [Exit.inBlock]
      simp only at q
      split at q
      · rename_i hb
        rw [if_pos (Nat.eq_of_beq_eq_true hb)]
        exact hk _ _ _ _ _ _ q hi'
      · rename_i hb
        rw [if_neg (by rintro rfl; rw [Nat.beq_refl] at hb; cases hb)]
        exact hk _ _ _ _ _ _ q hi'
    | _ => exact hk _ _ _ _ _ _ q hi'
  | .region id ops false, env, mem, c, a, w, Q, Q', h, hi, hk => by
    unfold vcC at h
    exact wp_region_list (vcOps_sound hty (fun env' mem' c' a' w' g1 g2 => hk _ _ _ _ _ _ g1 g2) _ _ _ _ _ _ h hi)
  | .region id ops true, env, mem, c, a, w, Q, Q', h, hi, hk => by
    unfold vcC at h
    exact h.ok c0 w0 c a w hi Q' fun e env' mem' c' a' w' g1 g2 => hk _ _ _ _ _ _ g2 g1
  | .loop x, env, mem, c, a, w, Q, Q', h, hi, hk => by
    unfold vcC at h
    obtain ⟨J, ⟨st1, n, h1, h2⟩, h3⟩ := h.ex
    obtain ⟨c1, hi1⟩ := h1 c0 w0 c a w hi
    refine wp_loop_falls (fun n a w => ∃ st c, J st n ∧ Inv cf.G cf.N c0 w0 st c a w) ⟨n, st1, c1, h2, hi1⟩ fun n a w ⟨st, c, g1, g2⟩ => ?_
    refine vcC_sound hty x st.env st.mem c a w _ _ (h3 st n g1) g2 fun e env' mem' c' a' w' q hi' => ?_
    cases e with
    | normal =>
      obtain ⟨st2, n', k1, k2, k3⟩ := q
      obtain ⟨c2, hi2⟩ := k1 c0 w0 c' a' w' hi'
      exact ⟨n', k3, st2, c2, k2, hi2⟩
    | _ => exact hk _ _ _ _ _ _ q hi'
  | .rangeFunc _ _ _ _, env, mem, c, a, w, Q, Q', h, hi, hk => by unfold vcC at h; exact h.elim
  | .scope _, env, mem, c, a, w, Q, Q', h, hi, hk => by unfold vcC at h; exact h.elim
  | .goto _, env, mem, c, a, w, Q, Q', h, hi, hk => by unfold vcC at h; exact h.elim
  | .refuse _, env, mem, c, a, w, Q, Q', h, hi, hk => by unfold vcC at h; exact h.elim
end Go.Ab

/- A function's contract from its body's condition; calls of contracts. -/
namespace Go.Ab

theorem asAddr_of_load {P : Program} {T : TypeId} {v u : Value} {w : World} (h : (Instr.loadAt T v).run P w = .ok u w) : (do loadVar T (← asAddr v) : Sem Value).run P w = .ok u w := by
  cases v <;> try (simp [Instr.loadAt, Instr.sureAddr] at h; done)
  rename_i a
  cases a with
  | none => simp [Instr.loadAt, Instr.sureAddr] at h
  | some a => simpa [Instr.loadAt, Instr.sureAddr, asAddr] using h

def resM (tmps : Array Value) : ResultVar → Sem Value
  | .tmp t => pure (tmps.getD t undef)
  | .cell a t => do loadVar t (← asAddr (tmps.getD a undef))

theorem resR_sound {cf : Cfg} (hty : ∀ t, TyOk cf.P t (cf.ty t)) {c0 c : Cx} {w0 w : World} {st : St} {a : Act} (hi : Inv cf.G cf.N c0 w0 st c a w) : ∀ (rs : List ResultVar) (acc : List V) (K : List V → Prop), resR cf st rs acc K →
    ∃ xs vs, (rs.mapM (resM a.tmps)).run cf.P w = .ok vs w ∧ xs.length = vs.length ∧ (∀ (i : Nat) (x : V) (v : Value), xs[i]? = some x → vs[i]? = some v → R c x v) ∧ K (acc.reverse ++ xs)
  | [], acc, K, h => ⟨[], [], by simp, rfl, by simp, by simpa [resR] using h⟩
  | .tmp t :: rest, acc, K, h => by
    unfold resR at h
    rw [forceK_eq] at h
    obtain ⟨xs, vs, h1, h2, h3, h4⟩ := resR_sound hty hi rest _ K h
    refine ⟨st.env t :: xs, a.tmps.getD t undef :: vs, by simp [List.mapM_cons, resM, h1], by simp [h2], fun i x v g1 g2 => ?_, by simpa using h4⟩
    cases i with
    | zero => simp only [List.getElem?_cons_zero] at g1 g2; injection g1 with g1; injection g2 with g2; subst g1 g2; exact hi.env t
    | succ i => exact h3 i x v (by simpa using g1) (by simpa using g2)
  | .cell t T :: rest, acc, K, h => by
    unfold resR at h
    obtain ⟨d, e1, e2⟩ := Res.of_vc h
    rw [forceK_eq] at e2
    obtain ⟨u, f1, f2⟩ := loadR_sound (P := cf.P) hty (fun n b hb => by rw [hi.mem]; exact hb) hi.sim (hi.env t) e1
    obtain ⟨xs, vs, h1, h2, h3, h4⟩ := resR_sound hty hi rest _ K e2
    have f3 := asAddr_of_load f1
    refine ⟨d :: xs, u :: vs, ?_, by simp [h2], fun i x v g1 g2 => ?_, by simpa using h4⟩
    · simp only [List.mapM_cons, Sem.run_bind, resM] at f3 ⊢
      rw [f3]
      simp [h1]
    · cases i with
      | zero => simp only [List.getElem?_cons_zero] at g1 g2; injection g1 with g1; injection g2 with g2; subst g1 g2; exact f2
      | succ i => exact h3 i x v (by simpa using g1) (by simpa using g2)

/-- The slots at a call: the arguments, and nothing. -/
def argEnv : List V → Nat → V
  | [], _ => .lit undef
  | x :: xs, k => match Nat.beq k 0 with | true => x | false => argEnv xs (k - 1)
theorem argEnv_eq (xs : List V) (k : Nat) : argEnv xs k = (xs[k]?).getD (.lit undef) := by
  induction xs generalizing k with
  | nil => simp [argEnv]
  | cons x xs ih =>
    cases k with
    | zero => simp [argEnv]
    | succ k => simp [argEnv, ih, Nat.beq]

structure Fits (cf : Cfg) (f : FuncId) (fn : Func) (code : Code) : Prop where
  at_ : cf.P.funcs[f]? = some fn
  body : fn.body = some code
  size : fn.ntmps = cf.N
  name : (fn.name == "runtime.NumGoroutine") = false

/-- **A contract**, from the condition of the body. -/
theorem CallOK.of_body {cf : Cfg} (hty : ∀ t, TyOk cf.P t (cf.ty t)) {f : FuncId} {fn : Func} {code : Code} (hf : Fits cf f fn code) {rs : List ResultVar} (hrs : fn.results.toList = rs) {args : List V} {m : Nat → Option Blk} {Post : V → (Nat → Option Blk) → Prop}
    (hlen : args.length ≤ cf.N) (hm : ∀ n, n < 1000 → m n = none) (hpost : ∀ r m', Post r m' → ∀ n, m n ≠ none → m' n ≠ none)
    (h : vcCR cf code (argEnv args) m fun e env mem => match e with
      | .normal => RetOK cf rs Post env mem
      | .ret => RetOK cf rs Post env mem
      | _ => False) : CallOK cf.P cf.G f args m Post := by
  refine ⟨fun c w vs hs hcm hg hr => .inl ⟨⟨fn, code, hf.at_, hf.name, hf.body⟩, ?_⟩⟩
  refine calls_of_wp hf.at_ hf.body ?_
  have hvl : vs.length = args.length := hr.1.symm
  have hi : Inv cf.G cf.N c w ⟨argEnv args, m⟩ c { tmps := vs.toArray ++ Array.replicate (fn.ntmps - vs.toArray.size) undef, defers := [] } w := by
    refine ⟨hcm, hs, fun t => ?_, .refl c w, .refl c, hg, by simp [hf.size]; omega, rfl⟩
    show R c (argEnv args t) ((vs.toArray ++ Array.replicate (fn.ntmps - vs.toArray.size) undef).getD t undef)
    rw [argEnv_eq]
    by_cases ht : t < args.length
    · have : t < vs.length := by omega
      rw [Array.getD_eq_getD_getElem?, Array.getElem?_append_left (by simpa using this), List.getElem?_eq_getElem ht]
      simp only [List.getElem?_toArray, List.getElem?_eq_getElem this, Option.getD_some]
      exact hr.2 t _ _ (List.getElem?_eq_getElem ht) (List.getElem?_eq_getElem this)
    · rw [List.getElem?_eq_none (by omega), Array.getD_eq_getD_getElem?, Array.getElem?_append_right (by simp; omega)]
      have : ((Array.replicate (fn.ntmps - vs.toArray.size) undef)[t - vs.toArray.size]?).getD undef = undef := by
        rw [Array.getElem?_replicate]; split <;> rfl
      rw [this]
      exact .lit _
  rw [vcCR_eq] at h
  refine vcC_sound hty code _ _ c _ w _ _ h hi fun e env mem c' a' w' q hi' => ?_
  have fin : RetOK cf rs Post env mem → a'.defers = [] ∧ ∃ v, (results fn a'.tmps).run cf.P w' = .ok v w' ∧ ∃ c' r, Post r c'.mem ∧ Ext c w c' w' ∧ Mono c c' ∧ Sim c' w' ∧ R c' r v ∧ ∀ n, 1000 ≤ n → c'.mem n ≠ none → c.mem n ≠ none := by
    rintro ⟨st1, hle, hres⟩
    obtain ⟨c1, hi1⟩ := hle _ _ _ _ _ hi'
    obtain ⟨xs, us, e1, e2, e3, e4⟩ := resR_sound hty hi1 rs [] _ hres
    simp only [List.reverse_nil, List.nil_append] at e4
    have hrun : (fn.results.mapM (resM a'.tmps)).run cf.P w' = .ok us.toArray w' := by
      rw [Array.mapM_eq_mapM_toList, hrs, Sem.run_map, e1]; rfl
    have hone : R c1 (one xs) (if h : us.toArray.size = 1 then us.toArray[0] else .tuple us.toArray) := by
      by_cases hl : us.length = 1
      · have hl' : us.toArray.size = 1 := by simpa using hl
        rw [dif_pos hl']
        obtain ⟨x, rfl⟩ := List.length_eq_one_iff.1 (e2.trans hl)
        obtain ⟨u, rfl⟩ := List.length_eq_one_iff.1 hl
        exact e3 0 x u rfl rfl
      · have hl' : ¬ us.toArray.size = 1 := by simpa using hl
        rw [dif_neg hl']
        have : one xs = .tup xs := by
          unfold one
          split
          · simp at e2; omega
          · rfl
        rw [this]
        exact .tup xs us e2 e3
    refine ⟨hi1.defers, _, ?_, c1, one xs, by rw [hi1.mem]; exact e4, hi1.ext, ⟨hi1.ext.S, fun n => ?_⟩, hi1.sim, hone, fun n hn hne => (hi1.keep.at_ n hn hne).2⟩
    · have : results fn a'.tmps = (do
          let vs ← fn.results.mapM (resM a'.tmps)
          pure (if h : vs.size = 1 then vs[0] else .tuple vs)) := by
        unfold results
        have : (fun r => match r with | .tmp t => pure (a'.tmps.getD t undef) | .cell a t => (do loadVar t (← asAddr (a'.tmps.getD a undef)) : Sem Value)) = resM a'.tmps := by
          funext r
          cases r <;> rfl
        rw [← this]
        rfl
      rw [this, Sem.run_bind, hrun, Result.andThen_ok, Sem.run_pure]
    · cases hn : c.mem n with
      | none => unfold MonoAt; rw [hn]; trivial
      | some b =>
        have hn1000 : 1000 ≤ n := by
          rcases Nat.lt_or_ge n 1000 with h | h
          · rw [hcm, hm n h] at hn; cases hn
          · exact h
        have hne : c1.mem n ≠ none := by
          rw [hi1.mem]
          exact hpost _ _ e4 n (by rw [← hcm, hn]; simp)
        exact (hi1.keep.at_ n hn1000 hne).1
  cases e with
  | normal => exact fin q
  | ret => exact fin q
  | exit => exact q.elim
  | goto => exact q.elim
  | panic => exact q.elim
  | outgrown => exact q.elim

/-! ### Calls of functions that know nothing of the memory -/
/-- A function of values alone. -/
def PureOK (P : Program) (G : Given) (f : FuncId) (args : List V) (r : V) : Prop := CallOK P G f args (fun _ => none) fun r' m' => r' = r ∧ m' = fun _ => none

theorem PureOK.call {P : Program} {G : Given} {f : FuncId} {args : List V} {r : V} (h : PureOK P G f args r) (hp : ∀ x ∈ args, x.pure = true) (m : Nat → Option Blk) : CallOK P G f args m fun r' m' => r' = r ∧ m' = m := by
  refine ⟨fun c w vs hs hm hg hr => ?_⟩
  have hs0 : Sim c.bare w := ⟨hs.stab, fun n b hb => (by cases hb), fun n n' k hn => absurd rfl hn⟩
  refine (h.run c.bare w vs hs0 rfl hg ⟨hr.1, fun i x v h1 h2 => (hr.2 i x v h1 h2).to_bare (hp x (mem_of_at h1))⟩).mono fun v w' ⟨c', r', ⟨e1, hm'⟩, h1, h2, h3, h4, h5⟩ => ?_
  · subst e1
    have noown : ∀ k, ¬ Owns c.bare k := fun k ⟨n, hn, _⟩ => hn rfl
    have hold : ∀ k, k < w.heap.size → w'.heap[k]? = w.heap[k]? := fun k hk => h1.frame k hk (noown k)
    let c'' : Cx := { S := c'.S, ι := c.ι, cap := c.cap, mem := c.mem }
    have hmono : Mono c c'' := ⟨h1.S, fun n => .same rfl rfl rfl⟩
    refine ⟨c'', r', ⟨rfl, hm⟩, ⟨h1.os, h1.tape, h1.output, h1.size, fun k hk _ => hold k hk, h1.S, fun b o v hv => ?_, fun k hk => .inr hk⟩, hmono, ⟨h3.stab, fun n b hb => ?_, hs.inj⟩, ?_, fun n _ h => h⟩
    · rcases h1.newS b o v hv with h | h | h
      · exact .inl h
      · exact .inr (.inl h)
      · exact absurd h (noown b)
    · have hlt : ∀ k, c.ι n = some k → k < w.heap.size := fun k hk => hs.ι_lt (by rw [show c.mem n = some b from hb]; simp) hk
      refine (hs.ok n b hb).keep rfl rfl (fun k hk => hold k (hlt k hk)) (fun _ _ h => hmono.R h) (fun k o hk hn => ?_)
      cases hv : c''.S k o with
      | none => rfl
      | some v =>
        rcases h1.newS k o v hv with h | h | h
        · rw [show c.bare.S k o = c.S k o from rfl, hn] at h; cases h
        · have := hlt k hk; omega
        · exact absurd h (noown k)
    · have : c'.bare = c' := by
        cases c'; simp only [Cx.bare] at hm' ⊢; rw [hm']
      rw [← this] at h4
      exact R.bare_any (c := c') (c' := c'') (fun _ _ _ h => h) h4
end Go.Ab

namespace Go.Ab
/-- A table by numbers. -/
inductive Tr where
  | lf (k : Nat) (x : TI)
  | nd (k : Nat) (l r : Tr)
def Tr.find (t : Nat) : Tr → TI
  | .lf k x => match Nat.beq t k with | true => x | false => ⟨.unk, 0, 0, .any⟩
  | .nd k l r => match Nat.ble k t with | true => r.find t | false => l.find t
def Tr.Ok (P : Program) : Tr → Prop
  | .lf k x => TyOk P k x
  | .nd _ l r => l.Ok P ∧ r.Ok P
theorem Tr.find_ok {P : Program} : ∀ {tr : Tr}, tr.Ok P → ∀ t, TyOk P t (tr.find t)
  | .lf k x, h, t => by
    unfold Tr.find
    split
    · rename_i hb; rw [Nat.eq_of_beq_eq_true hb]; exact h
    · exact .inl rfl
  | .nd k l r, h, t => by
    unfold Tr.find
    split
    · exact Tr.find_ok h.2 t
    · exact Tr.find_ok h.1 t
end Go.Ab

/- Weaker states: slots that are kept, blocks that are kept; loops. -/
namespace Go.Ab

def envOf : List (Nat × V) → Env
  | [], _ => .any
  | (t, v) :: rest, k => match Nat.beq k t with | true => v | false => envOf rest k
def memOf : List (Nat × Blk) → Mem
  | [], _ => none
  | (t, b) :: rest, k => match Nat.beq k t with | true => some b | false => memOf rest k

theorem envOf_mem {E : List (Nat × V)} (k : Nat) : envOf E k = .any ∨ ∃ p ∈ E, p.1 = k ∧ p.2 = envOf E k := by
  induction E with
  | nil => exact .inl rfl
  | cons p E ih =>
    obtain ⟨t, v⟩ := p
    unfold envOf
    cases hb : Nat.beq k t with
    | true => exact .inr ⟨(t, v), by simp, (Nat.eq_of_beq_eq_true hb).symm, rfl⟩
    | false =>
      rcases ih with h | ⟨p, h1, h2⟩
      · exact .inl h
      · exact .inr ⟨p, by simp [h1], h2⟩
theorem memOf_mem {M : List (Nat × Blk)} {k : Nat} {b : Blk} (h : memOf M k = some b) : (k, b) ∈ M := by
  induction M with
  | nil => cases h
  | cons p M ih =>
    obtain ⟨t, b'⟩ := p
    unfold memOf at h
    cases hb : Nat.beq k t with
    | true =>
      rw [hb] at h
      injection h with h
      rw [Nat.eq_of_beq_eq_true hb, h]; simp
    | false => rw [hb] at h; simp [ih h]

/-- A value in one memory says as much as another in another. -/
def VTh (m m' : Mem) (x x' : V) : Prop :=
  ∀ c c' : Cx, c.mem = m → c'.mem = m' → c'.S = c.S → (∀ n, m n ≠ none → c'.ι n = c.ι n ∧ c'.cap n = c.cap n) → ∀ v, R c x v → R c' x' v

section
variable {m m' : Mem}
theorem VTh.any {x : V} : VTh m m' x .any := fun _ _ _ _ _ _ v _ => .any v
theorem VTh.pure {x : V} (h : x.pure = true) : VTh m m' x x := fun c c' _ _ hS _ v hr => hr.transfer (by rw [hS]; exact fun _ _ _ h => h) (p := fun _ => false) (fun n hn => by cases hn) h
theorem VTh.of_eq {x y x' : V} (h : x = y) (k : VTh m m' y x') : VTh m m' x x' := h ▸ k
theorem VTh.to_eq {x x' y : V} (k : VTh m m' x y) (h : y = x') : VTh m m' x x' := h ▸ k
theorem VTh.strip {x : V} : VTh m m' x (strip x) := fun c c' _ _ hS _ v hr => hr.strip.bare_any (by rw [hS]; exact fun _ _ _ h => h)
theorem VTh.gl_list {n g sz : Nat} {xs : List V} : VTh m m' (.gl n g sz xs) (.list sz xs) := VTh.strip (x := .gl n g sz xs)
theorem VTh.esl_list {sz : Nat} : VTh m m' .esl (.list sz []) := fun c c' _ _ _ _ v hr => by
  cases hr with
  | esl A => exact .list sz [] A 0 0 0 (fun _ _ => undef) (fun h => absurd rfl h) (Nat.le_refl _) (by simp) (by simp) (by simp)
theorem VTh.esl_gl {n g sz : Nat} (h : m' n = some (.tok g sz 0 false)) : VTh m m' .esl (.gl n g sz []) := fun c c' _ hm _ _ v hr => by
  cases hr with
  | esl A => exact .gl0 n g sz A (by rw [hm]; exact h)
theorem VTh.ptr {n g g' sz i j : Nat} {es es' : List V} (h : m n = some (.row g sz es)) (h' : m' n = some (.row g' sz es')) : VTh m m' (.ptr n g i j) (.ptr n g' i j) := fun c c' hm hm' _ hι v hr => by
  cases hr with
  | ptr _ _ _ _ sz0 es0 k h1 hk =>
    rw [hm, h] at h1; injection h1 with h1; injection h1 with _ e1 _; subst e1
    exact .ptr n g' i j sz es' k (by rw [hm']; exact h') (by rw [(hι n (by rw [h]; simp)).1]; exact hk)
  | ptr0 _ _ _ _ b A h1 hg => rw [hm, h] at h1; injection h1 with h1; subst h1; exact absurd hg (Nat.lt_irrefl _)
theorem VTh.gl {n g g' sz len : Nat} {r : Bool} {xs : List V} (h : m n = some (.tok g sz len r)) (h' : m' n = some (.tok g' sz len r)) : VTh m m' (.gl n g sz xs) (.gl n g' sz xs) := fun c c' hm hm' hS hι v hr => by
  have hl : R c' (.list sz xs) v := (Go.Ab.gl_list hr).transfer (by rw [hS]; exact fun _ _ _ h => h) (p := fun _ => false) (fun n hn => by cases hn) rfl
  have hn := hι n (by rw [h]; simp)
  cases hr with
  | gl _ _ _ _ _ k h1 h2 hk hv =>
    rw [hm, h] at h2; injection h2 with h2; injection h2 with _ _ e1 e2; subst e1 e2
    exact .gl n g' sz xs v k hl (by rw [hm']; exact h') (by rw [hn.1]; exact hk) (by rw [hn.2]; exact hv)
  | gl0 _ _ _ A h1 =>
    rw [hm, h] at h1; injection h1 with h1; injection h1 with _ _ e1 e2; subst e1 e2
    exact .gl0 n g' sz A (by rw [hm']; exact h')
  | glx _ _ _ _ _ b h1 h2 hg => rw [hm, h] at h2; injection h2 with h2; subst h2; exact absurd hg (Nat.lt_irrefl _)
theorem VTh.msl {n g g' sz off len : Nat} {es es' : List V} (h : m n = some (.row g sz es)) (h' : m' n = some (.row g' sz es')) (hl : es'.length = es.length) : VTh m m' (.msl n g off len) (.msl n g' off len) := fun c c' hm hm' _ hι v hr => by
  cases hr with
  | msl _ _ _ _ sz0 es0 k A cap h1 hk h2 h3 hA =>
    rw [hm, h] at h1; injection h1 with h1; injection h1 with _ e1 e2; subst e1 e2
    exact .msl n g' off len sz es' k A cap (by rw [hm']; exact h') (by rw [(hι n (by rw [h]; simp)).1]; exact hk) (by omega) (by omega) hA
  | msl0 _ _ _ _ b A cap h1 hg => rw [hm, h] at h1; injection h1 with h1; subst h1; exact absurd hg (Nat.lt_irrefl _)
/-- Pointwise. -/
def VThL (m m' : Mem) : List V → List V → Prop
  | [], [] => True
  | x :: xs, x' :: xs' => VTh m m' x x' ∧ VThL m m' xs xs'
  | _, _ => False
theorem VThL.spec : ∀ {xs xs' : List V}, VThL m m' xs xs' → xs'.length = xs.length ∧ ∀ (i : Nat) (x x' : V), xs[i]? = some x → xs'[i]? = some x' → VTh m m' x x'
  | [], [], _ => ⟨rfl, by simp⟩
  | x :: xs, x' :: xs', h => by
    obtain ⟨h1, h2⟩ := VThL.spec h.2
    refine ⟨by simp [h1], fun i y y' a b => ?_⟩
    cases i with
    | zero => simp at a b; subst a b; exact h.1
    | succ i => exact h2 i y y' (by simpa using a) (by simpa using b)
theorem VThL.at_ {xs xs' : List V} (h : VThL m m' xs xs') {c c' : Cx} (h1 : c.mem = m) (h2 : c'.mem = m') (h3 : c'.S = c.S) (h4 : ∀ n, m n ≠ none → c'.ι n = c.ι n ∧ c'.cap n = c.cap n) {vs : List Value} (hl : xs.length = vs.length) (hr : ∀ (i : Nat) (x : V) (v : Value), xs[i]? = some x → vs[i]? = some v → R c x v) :
    xs'.length = vs.length ∧ ∀ (i : Nat) (x : V) (v : Value), xs'[i]? = some x → vs[i]? = some v → R c' x v := by
  obtain ⟨e1, e2⟩ := h.spec
  refine ⟨e1.trans hl, fun i x' v a b => ?_⟩
  have hi : i < xs.length := by rw [← e1]; exact (List.getElem?_eq_some_iff.1 a).1
  exact e2 i _ x' (List.getElem?_eq_getElem hi) a c c' h1 h2 h3 h4 v (hr i _ v (List.getElem?_eq_getElem hi) b)
theorem VTh.agg {xs xs' : List V} (h : VThL m m' xs xs') : VTh m m' (.agg xs) (.agg xs') := fun c c' h1 h2 h3 h4 v hr => by
  cases hr with
  | agg _ vs hl hr => obtain ⟨a, b⟩ := h.at_ h1 h2 h3 h4 hl hr; exact .agg xs' vs a b
theorem VTh.tup {xs xs' : List V} (h : VThL m m' xs xs') : VTh m m' (.tup xs) (.tup xs') := fun c c' h1 h2 h3 h4 v hr => by
  cases hr with
  | tup _ vs hl hr => obtain ⟨a, b⟩ := h.at_ h1 h2 h3 h4 hl hr; exact .tup xs' vs a b
theorem VTh.fn {f : FuncId} {xs xs' : List V} (h : VThL m m' xs xs') : VTh m m' (.fn f xs) (.fn f xs') := fun c c' h1 h2 h3 h4 v hr => by
  cases hr with
  | fn _ _ vs hl hr => obtain ⟨a, b⟩ := h.at_ h1 h2 h3 h4 hl hr; exact .fn f xs' vs a b
theorem VTh.iface {t : TypeId} {x x' : V} (h : VTh m m' x x') : VTh m m' (.iface t x) (.iface t x') := fun c c' h1 h2 h3 h4 v hr => by
  cases hr with
  | iface _ _ v hr => exact .iface t x' v (h c c' h1 h2 h3 h4 v hr)
end

/-- An element of a block. -/
def ETh (m m' : Mem) (x x' : V) : Prop := VThL m m' (leaves x) (leaves x')
/-- A row's elements. -/
def EThL (m m' : Mem) : List V → List V → Prop
  | [], [] => True
  | x :: xs, x' :: xs' => ETh m m' x x' ∧ EThL m m' xs xs'
  | _, _ => False
theorem EThL.spec {m m' : Mem} : ∀ {xs xs' : List V}, EThL m m' xs xs' → xs'.length = xs.length ∧ ∀ (i : Nat) (x x' : V), xs[i]? = some x → xs'[i]? = some x' → ETh m m' x x'
  | [], [], _ => ⟨rfl, by simp⟩
  | x :: xs, x' :: xs', h => by
    obtain ⟨h1, h2⟩ := EThL.spec h.2
    refine ⟨by simp [h1], fun i y y' a b => ?_⟩
    cases i with
    | zero => simp at a b; subst a b; exact h.1
    | succ i => exact h2 i y y' (by simpa using a) (by simpa using b)
theorem VThL.pure {m m' : Mem} : ∀ {xs : List V}, (∀ x ∈ xs, x.pure = true) → VThL m m' xs xs
  | [], _ => trivial
  | x :: xs, h => ⟨VTh.pure (h x (by simp)), VThL.pure fun y hy => h y (by simp [hy])⟩
theorem EThL.pure {m m' : Mem} : ∀ {xs : List V}, (∀ x ∈ xs, x.pure = true) → EThL m m' xs xs
  | [], _ => trivial
  | x :: xs, h => ⟨VThL.pure fun y hy => pure_leaf (h x (by simp)) hy, EThL.pure fun y hy => h y (by simp [hy])⟩

inductive BTh (m m' : Mem) (n : Nat) : Blk → Prop
  | row (g sz : Nat) (es : List V) (g' : Nat) (es' : List V) (h : m n = some (.row g sz es)) (hg : Nat.ble 1000 n = true → g' = g) (he : EThL m m' es es') : BTh m m' n (.row g' sz es')
  | tok (g sz len : Nat) (r : Bool) (g' : Nat) (h : m n = some (.tok g sz len r)) (hn : Nat.ble 1000 n = false) : BTh m m' n (.tok g' sz len r)
  | same (g sz len : Nat) (r : Bool) (g' : Nat) (h : m n = some (.tok g sz len r)) (hg : g ≤ g') : BTh m m' n (.tok g' sz len r)
  | new (g sz : Nat) (h : m n = none) (hn : Nat.ble 1000 n = false) : BTh m m' n (.tok g sz 0 false)

theorem Le.of {cf : Cfg} {env : Env} {mem : Mem} {E : List (Nat × V)} {M : List (Nat × Blk)} (hE : ∀ p ∈ E, VTh mem (memOf M) (env p.1) p.2) (hM : ∀ p ∈ M, BTh mem (memOf M) p.1 p.2) :
    Le cf ⟨env, mem⟩ ⟨envOf E, memOf M⟩ := by
  intro c0 w0 c a w hi
  have hcm : c.mem = mem := hi.mem
  let c' : Cx := { S := c.S, ι := fun n => match mem n with | some _ => c.ι n | none => none, cap := c.cap, mem := memOf M }
  have hι : ∀ n, mem n ≠ none → c'.ι n = c.ι n := fun n hn => by
    simp only [c']; split
    · rfl
    · rename_i h; exact absurd h hn
  have h4 : ∀ n, mem n ≠ none → c'.ι n = c.ι n ∧ c'.cap n = c.cap n := fun n hn => ⟨hι n hn, rfl⟩
  have hV : ∀ {x x' : V} {v : Value}, VTh mem (memOf M) x x' → R c x v → R c' x' v := fun h hr => h c c' hcm rfl rfl h4 _ hr
  have howns : ∀ k, Owns c' k → Owns c k := by
    rintro k ⟨n, hn, hk⟩
    cases hm : mem n with
    | none => simp only [c', hm] at hk; cases hk
    | some b =>
      rw [hι n (by rw [hm]; simp)] at hk
      exact ⟨n, by rw [hcm, hm]; simp, hk⟩
  refine ⟨c', rfl, ⟨hi.sim.stab, fun n b hb => ?_, fun n n' k hn hn' h1 h2 => ?_⟩, fun t => ?_, ⟨hi.ext.os, hi.ext.tape, hi.ext.output, hi.ext.size, hi.ext.frame, hi.ext.S, hi.ext.newS, fun k hk => hi.ext.own k (howns k hk)⟩, ⟨fun n hn hne => ?_⟩, hi.good, hi.size, hi.defers⟩
  · have hB := hM _ (memOf_mem hb)
    simp only at hB
    cases hB with
    | row g sz es g' es' h hg he =>
      have hn : mem n ≠ none := by rw [h]; simp
      obtain ⟨k, cs, T, fr, a1, a2, a3, a4, a5, a6, a7⟩ := hi.sim.ok n _ (by rw [hcm]; exact h)
      obtain ⟨e1, e2⟩ := he.spec
      have hx : ∀ (i : Nat) (x' : V), es'[i]? = some x' → ∃ x, es[i]? = some x ∧ ETh mem (memOf M) x x' := fun i x' hx' => by
        have hlt : i < es.length := by rw [← e1]; exact (List.getElem?_eq_some_iff.1 hx').1
        exact ⟨es[i], List.getElem?_eq_getElem hlt, e2 i _ x' (List.getElem?_eq_getElem hlt) hx'⟩
      refine ⟨k, cs, T, fr, (hι n hn).trans a1, a2, by rw [e1]; exact a3, a4, fun x' hx' => ?_, fun i x' j y' h1 h2 => ?_, a7⟩
      · obtain ⟨i, hi'⟩ := List.getElem?_of_mem hx'
        obtain ⟨x, g1, g2⟩ := hx i x' hi'
        rw [g2.spec.1]; exact a5 x (mem_of_at g1)
      · obtain ⟨x, g1, g2⟩ := hx i x' h1
        have hlt : j < (leaves x).length := by rw [← g2.spec.1]; exact (List.getElem?_eq_some_iff.1 h2).1
        obtain ⟨v, k1, k2⟩ := a6 i x j _ g1 (List.getElem?_eq_getElem hlt)
        exact ⟨v, k1, hV (g2.spec.2 j _ y' (List.getElem?_eq_getElem hlt) h2) k2⟩
    | tok g sz len r g' h hn =>
      have hn' : mem n ≠ none := by rw [h]; simp
      have := hi.sim.ok n _ (by rw [hcm]; exact h)
      cases r with
      | true =>
        obtain ⟨k, cs, T, fr, a1, a2, a3, a4, a5, a6⟩ := this
        exact ⟨k, cs, T, fr, (hι n hn').trans a1, a2, a3, a4, a5, a6⟩
      | false => exact (hι n hn').trans this
    | same g sz len r g' h hg =>
      have hn' : mem n ≠ none := by rw [h]; simp
      have := hi.sim.ok n _ (by rw [hcm]; exact h)
      cases r with
      | true =>
        obtain ⟨k, cs, T, fr, a1, a2, a3, a4, a5, a6⟩ := this
        exact ⟨k, cs, T, fr, (hι n hn').trans a1, a2, a3, a4, a5, a6⟩
      | false => exact (hι n hn').trans this
    | new g sz h hn => show c'.ι n = none; simp only [c', h]
  · have hs : ∀ n, c'.ι n = some k → mem n ≠ none := fun n h hm => by simp only [c', hm] at h; cases h
    have e1 := hs n h1
    have e2 := hs n' h2
    exact hi.sim.inj n n' k (by rw [hcm]; exact e1) (by rw [hcm]; exact e2) ((hι n e1).symm.trans h1) ((hι n' e2).symm.trans h2)
  · rcases envOf_mem (E := E) t with h | ⟨p, h1, h2, h3⟩
    · show R c' (envOf E t) _
      rw [h]; exact .any _
    · show R c' (envOf E t) _
      rw [← h3]
      have := hE p h1
      rw [h2] at this
      exact hV this (hi.env t)
  · cases hb : memOf M n with
    | none => exact absurd hb hne
    | some b =>
      have hB := hM _ (memOf_mem hb)
      simp only at hB
      have hble : Nat.ble 1000 n = true := Nat.ble_eq_true_of_le hn
      cases hB with
      | tok g sz len r g' h hn => rw [hble] at hn; cases hn
      | new g sz h hn => rw [hble] at hn; cases hn
      | same g sz len r g' h hg =>
        obtain ⟨k1, k2⟩ := hi.keep.at_ n hn (by rw [hcm, h]; simp)
        refine ⟨k1.trans (.of fun b hb' => ?_), k2⟩
        rw [hcm, h] at hb'
        injection hb' with hb'
        subst hb'
        refine ⟨_, hb, ?_⟩
        rcases Nat.lt_or_eq_of_le hg with hlt | rfl
        · exact .inl hlt
        · exact .inr ⟨hι n (by rw [h]; simp), rfl, Blk.like_refl _⟩
      | row g sz es g' es' h hg he =>
        have hg := hg hble
        subst hg
        obtain ⟨k1, k2⟩ := hi.keep.at_ n hn (by rw [hcm, h]; simp)
        refine ⟨k1.trans (.of fun b hb' => ?_), k2⟩
        rw [hcm, h] at hb'
        injection hb' with hb'
        subst hb'
        exact ⟨_, hb, .inr ⟨hι n (by rw [h]; simp), rfl, es', rfl, he.spec.1⟩⟩

theorem Le.trans {cf : Cfg} {s1 s2 s3 : St} (h : Le cf s1 s2) (k : Le cf s2 s3) : Le cf s1 s3 := fun c0 w0 c a w hi => let ⟨c', h'⟩ := h c0 w0 c a w hi; k c0 w0 c' a w h'
/-- A right to append is given up. -/
theorem Le.drop {cf : Cfg} {env : Env} {mem : Mem} {n g sz len : Nat} {r : Bool} (h : mem n = some (.tok g sz len r)) (g' sz' : Nat) (hg : g < g') : Le cf ⟨env, mem⟩ ⟨env, mupd mem n (.tok g' sz' 0 false)⟩ := by
  intro c0 w0 c a w hi
  have hcm : c.mem = mem := hi.mem
  let c' : Cx := { S := c.S, ι := fun k => if k = n then none else c.ι k, cap := c.cap, mem := mupd mem n (.tok g' sz' 0 false) }
  have hmem : ∀ k, k ≠ n → c'.mem k = c.mem k := fun k hk => by rw [hcm]; exact mupd_other _ _ hk
  have hι : ∀ k, k ≠ n → c'.ι k = c.ι k := fun k hk => by simp [c', hk]
  have hn : c'.mem n = some (.tok g' sz' 0 false) := mupd_same _ _ _
  have hmono : Mono c c' := ⟨fun _ _ _ h => h, fun k => by
    by_cases hk : k = n
    · subst hk
      exact .of fun b hb => ⟨_, hn, .inl (by rw [hcm, h] at hb; injection hb with hb; subst hb; exact hg)⟩
    · exact .same (hmem k hk) (hι k hk) rfl⟩
  have howns : ∀ k, Owns c' k → Owns c k := by
    rintro k ⟨i, hi', hk⟩
    by_cases hin : i = n
    · subst hin; simp [c'] at hk
    · exact ⟨i, by rw [← hmem i hin]; exact hi', by rw [← hι i hin]; exact hk⟩
  refine ⟨c', rfl, ⟨hi.sim.stab, fun i b hb => ?_, fun i i' k h1 h2 h3 h4 => ?_⟩, fun t => hmono.R (hi.env t), ⟨hi.ext.os, hi.ext.tape, hi.ext.output, hi.ext.size, hi.ext.frame, hi.ext.S, hi.ext.newS, fun k hk => hi.ext.own k (howns k hk)⟩, hi.keep.step fun i hi' hne => ⟨?_, hmono.at_ i⟩, hi.good, hi.size, hi.defers⟩
  · by_cases hin : i = n
    · subst hin
      rw [hn] at hb; injection hb with hb; subst hb
      show c'.ι i = none
      simp [c']
    · rw [hmem i hin] at hb
      exact (hi.sim.ok i b hb).keep (hι i hin) rfl (fun _ _ => rfl) (fun _ _ h => hmono.R h) (fun _ _ _ h => h)
  · have e1 : i ≠ n := fun e => by subst e; simp [c'] at h3
    have e2 : i' ≠ n := fun e => by subst e; simp [c'] at h4
    exact hi.sim.inj i i' k (by rw [← hmem i e1]; exact h1) (by rw [← hmem i' e2]; exact h2) ((hι i e1).symm.trans h3) ((hι i' e2).symm.trans h4)
  · by_cases hin : i = n
    · subst hin; rw [hcm, h]; simp
    · rw [← hmem i hin]; exact hne

/-- The head of a loop, of a form. -/
def Head {α : Type} (I : α → Prop) (E : α → List (Nat × V)) (M : α → List (Nat × Blk)) (μ : α → Nat) (st : St) (n : Nat) : Prop := ∃ a, I a ∧ st = ⟨envOf (E a), memOf (M a)⟩ ∧ n = μ a
/-- A loop: at its head the state is of a form. -/
theorem LoopOK.intro {α : Type} {cf : Cfg} {body : Env → Mem → (Exit → Env → Mem → Prop) → Prop} {env : Env} {mem : Mem} {Q : Exit → Env → Mem → Prop} (I : α → Prop) (E : α → List (Nat × V)) (M : α → List (Nat × Blk)) (μ : α → Nat) (a0 : α) (h0 : I a0) (hle : Le cf ⟨env, mem⟩ ⟨envOf (E a0), memOf (M a0)⟩)
    (hb : ∀ a, I a → body (envOf (E a)) (memOf (M a)) (fun e env' mem' => match e with
      | .normal => ∃ st1 n', Le cf ⟨env', mem'⟩ st1 ∧ Head I E M μ st1 n' ∧ n' < μ a
      | e => Q e env' mem')) : LoopOK cf body env mem Q :=
  ⟨Head I E M μ, ⟨_, _, hle, a0, h0, rfl, rfl⟩, fun st n ⟨a, h1, h2, h3⟩ => by
    subst h2 h3
    exact hb a h1⟩
theorem Head.next {α : Type} {cf : Cfg} {I : α → Prop} {E : α → List (Nat × V)} {M : α → List (Nat × Blk)} {μ : α → Nat} {env : Env} {mem : Mem} {n : Nat} (a : α) (h : I a) (hn : μ a < n) (hle : Le cf ⟨env, mem⟩ ⟨envOf (E a), memOf (M a)⟩) :
    ∃ st1 n', Le cf ⟨env, mem⟩ st1 ∧ Head I E M μ st1 n' ∧ n' < n := ⟨_, _, hle, ⟨a, h, rfl, rfl⟩, hn⟩
theorem RetOK.now {cf : Cfg} {rs : List ResultVar} {Post : V → Mem → Prop} {env : Env} {mem : Mem} (h : resR cf ⟨env, mem⟩ rs [] fun vs => Post (one vs) mem) : RetOK cf rs Post env mem := ⟨⟨env, mem⟩, .refl cf _, h⟩
theorem RetOK.weak {cf : Cfg} {rs : List ResultVar} {Post : V → Mem → Prop} {env : Env} {mem : Mem} (E : List (Nat × V)) (M : List (Nat × Blk)) (hle : Le cf ⟨env, mem⟩ ⟨envOf E, memOf M⟩) (h : resR cf ⟨envOf E, memOf M⟩ rs [] fun vs => Post (one vs) (memOf M)) : RetOK cf rs Post env mem := ⟨⟨envOf E, memOf M⟩, hle, h⟩
end Go.Ab

/- Regions that draw their order: quiet operations in any order, then the rest one behind the other. -/
namespace Go.Ab

/-- What a quiet operation yields, from slots that are known, and the block that it makes. -/
inductive QVal (cf : Cfg) (mem : Mem) (o : Oper) (d : Tmp) (env : Env) : V → Option Blk → Prop
  | pick (c a b : Operand) (t : Bool) (h : o.op = .pick c a b) (hc : evO env c = .bool t) : QVal cf mem o d env (if t then evO env a else evO env b) none
  | call (x : Operand) (args : Array Operand) (ts : Array TypeId) (f : FuncId) (caps : List V) (r : V) (h : o.op = .call ⟨.value x, args, ts⟩) (hx : evO env x = .fn f caps)
      (hr : ∀ m, (∀ n b, mem n = some b → m n = some b) → CallOK cf.P cf.G f (args.toList.map (evO env) ++ caps) m fun r' m' => r' = r ∧ m' = m) : QVal cf mem o d env r none
  | new (p : Prop) (v : V) (N : Option Blk) (h : evA cf.ty cf.md (evO env) mem d o.op = some (p, v, N)) (hp : p) (hm : mem d = none) (hd : d < 1000) : QVal cf mem o d env v N
  | quiet (v : V) (h : (evQ cf.ty cf.md (evO env) mem o.op).holds v) : QVal cf mem o d env v none

inductive QStep (cf : Cfg) (ops : Array Oper) (mem : Mem) (o : Oper) (d : Tmp) (env : Env) : V → Option Blk → Prop
  | want (v : V) (N : Option Blk) (h : guardV ops env o.guard = .want) (k : QVal cf mem o d env v N) : QStep cf ops mem o d env v N
  | yes (t : Nat) (b w : Bool) (v : V) (N : Option Blk) (h : guardV ops env o.guard = .bool t b w) (hb : b = w) (k : QVal cf mem o d env v N) : QStep cf ops mem o d env v N
  | no (t : Nat) (b w : Bool) (h : guardV ops env o.guard = .bool t b w) (hb : b ≠ w) : QStep cf ops mem o d env (.lit undef) none
  | skip (h : guardV ops env o.guard = .skip) : QStep cf ops mem o d env (.lit undef) none

def addB (m : Mem) (d : Tmp) : Option Blk → Mem
  | some b => mupd m d b
  | none => m

inductive QRun (cf : Cfg) (ops : Array Oper) (mem : Mem) : List Oper → Env → Mem → Env → Mem → Prop
  | nil (env : Env) (m : Mem) : QRun cf ops mem [] env m env m
  | cons (o : Oper) (rest : List Oper) (d : Tmp) (env : Env) (m : Mem) (v : V) (N : Option Blk) (env' : Env) (m' : Mem) (hd : o.dst = some d) (hN : d < cf.N) (h : QStep cf ops mem o d env v N) (k : QRun cf ops mem rest (upd env d v) (addB m d N) env' m') :
      QRun cf ops mem (o :: rest) env m env' m'

/-! ### The condition -/
def qOp (cf : Cfg) (o : Oper) (d : Tmp) (env : Env) (mem m : Mem) (K : Env → Mem → Prop) : Prop :=
  match o.op with
  | .pick c a b => match evO env c with
    | .bool t => brK t (setK env c true fun env' => fin cf (some d) env' (evO env a) fun env => K env m)
      (setK env c false fun env' => fin cf (some d) env' (evO env b) fun env => K env m)
    | _ => False
  | .call ⟨.value x, args, _⟩ => match evO env x with
    | .fn f caps => ∃ r, (∀ m, (∀ n b, mem n = some b → m n = some b) → CallOK cf.P cf.G f (args.toList.map (evO env) ++ caps) m fun r' m' => r' = r ∧ m' = m) ∧ fin cf (some d) env r fun env => K env m
    | _ => False
  | op => match (match Nat.ble 1000 d, mem d with
      | false, none => evA cf.ty cf.md (evO env) mem d op
      | _, _ => none) with
    | some (p, v, N) => obK (triv cf.ty op) p (litK (isLit op) v fun v => fin cf (some d) env v fun env => memK cf.md m N d fun m => K env m)
    | none => (evQ cf.ty cf.md (evO env) mem op).vc fun v => layK (isDeep cf.ty cf.md d op) v fun v => fin cf (some d) env v fun env => K env m

def vcQ (cf : Cfg) (ops : Array Oper) (mem : Mem) : List Oper → Env → Mem → (Env → Mem → Prop) → Prop
  | [], env, m, K => K env m
  | o :: rest, env, m, K => match o.dst with
    | none => False
    | some d => match guardV ops env o.guard with
      | .want => qOp cf o d env mem m fun env m => vcQ cf ops mem rest env m K
      | .skip => fin cf (some d) env (.lit undef) fun env => vcQ cf ops mem rest env m K
      | .bool t b w => match b with
        | true => match w with
          | true => qOp cf o d (upd env t (.bool true)) mem m fun env m => vcQ cf ops mem rest env m K
          | false => fin cf (some d) (upd env t (.bool true)) (.lit undef) fun env => vcQ cf ops mem rest env m K
        | false => match w with
          | false => qOp cf o d (upd env t (.bool false)) mem m fun env m => vcQ cf ops mem rest env m K
          | true => fin cf (some d) (upd env t (.bool false)) (.lit undef) fun env => vcQ cf ops mem rest env m K
      | .fail => False

noncomputable def vcQR (cf : Cfg) (ops : Array Oper) (mem : Mem) (l : List Oper) : Env → Mem → (Env → Mem → Prop) → Prop :=
  List.rec (motive := fun _ => Env → Mem → (Env → Mem → Prop) → Prop) (fun env m K => K env m) (fun o _ ih env m K => match o.dst with
    | none => False
    | some d => match guardV ops env o.guard with
      | .want => qOp cf o d env mem m fun env m => ih env m K
      | .skip => fin cf (some d) env (.lit undef) fun env => ih env m K
      | .bool t b w => brK b (brK w
          (qOp cf o d (upd env t (.bool true)) mem m fun env m => ih env m K)
          (fin cf (some d) (upd env t (.bool true)) (.lit undef) fun env => ih env m K))
        (brK w
          (fin cf (some d) (upd env t (.bool false)) (.lit undef) fun env => ih env m K)
          (qOp cf o d (upd env t (.bool false)) mem m fun env m => ih env m K))
      | .fail => False) l
theorem vcQR_eq (cf : Cfg) (ops : Array Oper) (mem : Mem) : ∀ l, vcQR cf ops mem l = vcQ cf ops mem l := by
  intro l
  induction l with
  | nil => rfl
  | cons o rest ih =>
    funext env m K
    unfold vcQ
    rw [← ih]
    show (match o.dst with | none => _ | some d => _) = _
    cases o.dst with
    | none => rfl
    | some d =>
      show (match guardV ops env o.guard with | .want => _ | .skip => _ | .bool t b w => _ | .fail => _) = _
      cases guardV ops env o.guard with
      | bool t b w => cases b <;> cases w <;> rfl
      | _ => rfl

theorem upd_same {env : Env} {t : Nat} {v : V} (h : env t = v) : upd env t v = env := by
  funext k
  unfold upd
  cases hb : Nat.beq k t with
  | false => rfl
  | true => rw [Nat.eq_of_beq_eq_true hb, h]
theorem setB_same {env : Env} {c : Operand} {b : Bool} (h : evO env c = .bool b) : setB env c b = env := by
  cases c with
  | tmp t => exact upd_same h
  | _ => rfl
theorem guardV_env {ops : Array Oper} {env : Env} {g : Option (Nat × Bool)} {t : Nat} {b w : Bool} (h : guardV ops env g = .bool t b w) : env t = .bool b := by
  unfold guardV at h
  split at h
  · cases h
  · split at h
    · split at h
      · split at h <;> first
          | (cases h; done)
          | (injection h with h1 h2 h3; subst h1 h2; assumption)
      · cases h
    · cases h

theorem qOp_sound {cf : Cfg} {o : Oper} {d : Tmp} {env : Env} {mem m : Mem} {K : Env → Mem → Prop} (h : qOp cf o d env mem m K) : ∃ v N, QVal cf mem o d env v N ∧ d < cf.N ∧ K (upd env d v) (addB m d N) := by
  unfold qOp at h
  split at h
  · rename_i c a b hop
    split at h
    · rename_i t hc
      rcases brK_cases h with ⟨rfl, h7⟩ | ⟨rfl, h7⟩ <;> clear h
      · rw [setK_eq, setB_same hc] at h7
        obtain ⟨h1, h2⟩ := fin_spec h7
        exact ⟨_, none, .pick c a b true hop hc, h2 d rfl, h1⟩
      · rw [setK_eq, setB_same hc] at h7
        obtain ⟨h1, h2⟩ := fin_spec h7
        exact ⟨_, none, .pick c a b false hop hc, h2 d rfl, h1⟩
    · exact h.elim
  · rename_i x args ts hop
    split at h
    · rename_i f caps hx
      obtain ⟨r, h1, h2⟩ := h
      obtain ⟨h2, h3⟩ := fin_spec h2
      exact ⟨r, none, .call x args ts f caps r hop hx h1, h3 d rfl, h2⟩
    · exact h.elim
  · split at h
    · rename_i p v N hA
      split at hA
      · rename_i hd hm
        obtain ⟨h1, h2⟩ := obK_spec hA h
        rw [litK_eq] at h2
        obtain ⟨h2, h3⟩ := fin_spec h2
        refine ⟨v, N, .new p v N hA h1 hm ?_, h3 d rfl, ?_⟩
        · rcases Nat.lt_or_ge d 1000 with h | h
          · exact h
          · rw [Nat.ble_eq_true_of_le h] at hd; cases hd
        · cases N with
          | none => exact h2
          | some b =>
            show K (put env (some d) v) (mupd m d b)
            simpa only [memK, blkK_eq, rowK_eq] using h2
      · cases hA
    · obtain ⟨v, h1, h2⟩ := Res.of_vc h
      rw [layK_eq] at h2
      obtain ⟨h2, h3⟩ := fin_spec h2
      exact ⟨v, none, .quiet v h1, h3 d rfl, h2⟩

theorem vcQ_sound {cf : Cfg} {ops : Array Oper} {mem : Mem} {K : Env → Mem → Prop} : ∀ (l : List Oper) (env : Env) (m : Mem), vcQ cf ops mem l env m K → ∃ env' m', QRun cf ops mem l env m env' m' ∧ K env' m'
  | [], env, m, h => ⟨env, m, .nil env m, h⟩
  | o :: rest, env, m, h => by
    unfold vcQ at h
    split at h
    · exact h.elim
    rename_i d hd
    have want : ∀ (hg : ∀ v N, QVal cf mem o d env v N → QStep cf ops mem o d env v N), qOp cf o d env mem m (fun env m => vcQ cf ops mem rest env m K) → ∃ env' m', QRun cf ops mem (o :: rest) env m env' m' ∧ K env' m' := fun hg h => by
      obtain ⟨v, N, h1, h2, h3⟩ := qOp_sound h
      obtain ⟨env', m', k1, k2⟩ := vcQ_sound rest _ _ h3
      exact ⟨env', m', .cons o rest d env m v N env' m' hd h2 (hg v N h1) k1, k2⟩
    have skip : QStep cf ops mem o d env (.lit undef) none → fin cf (some d) env (.lit undef) (fun env => vcQ cf ops mem rest env m K) → ∃ env' m', QRun cf ops mem (o :: rest) env m env' m' ∧ K env' m' := fun hg h => by
      obtain ⟨h1, h2⟩ := fin_spec h
      obtain ⟨env', m', k1, k2⟩ := vcQ_sound rest _ _ h1
      exact ⟨env', m', .cons o rest d env m _ none env' m' hd (h2 d rfl) hg k1, k2⟩
    split at h
    · rename_i hg
      exact want (fun v N k => .want v N hg k) h
    · rename_i hg
      exact skip (.skip hg) h
    · rename_i t b w hg
      have he := guardV_env hg
      split at h
      · rw [upd_same he] at h
        split at h
        · exact want (fun v N k => .yes t true true v N hg rfl k) h
        · exact skip (.no t true false hg (by decide)) h
      · rw [upd_same he] at h
        split at h
        · exact want (fun v N k => .yes t false false v N hg rfl k) h
        · exact skip (.no t false true hg (by decide)) h
    · exact h.elim

/-! ### Any order -/
def waits (o : Oper) : List Nat := (o.after.toList.filter (Region.binds .any)).map (·.on)
def opTmps (ops : Array Oper) (o : Oper) : List Nat :=
  (o.op.operands.toList.filterMap fun x => match x with | .tmp t => some t | _ => none) ++
  (match o.guard with | none => [] | some (j, _) => match ops.toList[j]? with | some o' => (match o'.dst with | some t => [t] | none => []) | none => [])
/-- An operation waits for another, through others. -/
def reach (ops : Array Oper) : Nat → Oper → Nat → Bool
  | 0, o, j => (waits o).contains j
  | f + 1, o, j => (waits o).contains j || (waits o).any fun k => match ops.toList[k]? with | some o' => reach ops f o' j | none => false
theorem reach_listed {ops : Array Oper} {L : Nat → Prop} (hc : ∀ k o, ops[k]? = some o → L k → ∀ j ∈ waits o, L j) : ∀ (f : Nat) (o : Oper) (j : Nat), (∀ k ∈ waits o, L k) → reach ops f o j = true → L j
  | 0, o, j, h, hr => h j (by simpa [reach] using hr)
  | f + 1, o, j, h, hr => by
    simp only [reach, Bool.or_eq_true] at hr
    rcases hr with hr | hr
    · exact h j (by simpa using hr)
    · obtain ⟨k, hk, hr⟩ := List.any_eq_true.1 hr
      split at hr
      · rename_i o' ho'
        exact reach_listed hc f o' j (hc k o' (by simpa using ho') (h k hk)) hr
      · cases hr
def drawB (q : Nat) (ops : Array Oper) : Bool :=
  ((List.range ops.toList.length).all fun i => match ops.toList[i]? with
    | none => false
    | some o => (waits o).all (fun j => Nat.blt j i) &&
      (if i < q then o.dst.isSome && ((List.range q).all fun j => match ops.toList[j]? with
          | none => false
          | some o' => (Nat.beq i j || !(o'.dst == o.dst)) && ((opTmps ops o).all fun t => !(o'.dst == some t) || (waits o).contains j))
       else ((List.range q).all fun j => reach ops 6 o j) && (Nat.beq i q || reach ops 6 o (i - 1)))) && Nat.ble q ops.toList.length

theorem drawB_spec {q : Nat} {ops : Array Oper} (h : drawB q ops = true) : q ≤ ops.size ∧ ∀ i o, ops[i]? = some o →
    (∀ j ∈ waits o, j < i) ∧ (i < q → (∃ d, o.dst = some d) ∧ ∀ j o', j < q → ops[j]? = some o' → (i ≠ j → o'.dst ≠ o.dst) ∧ ∀ t ∈ opTmps ops o, o'.dst = some t → j ∈ waits o) ∧
    (q ≤ i → (∀ j, j < q → reach ops 6 o j = true) ∧ (i ≠ q → reach ops 6 o (i - 1) = true)) := by
  unfold drawB at h
  rw [Bool.and_eq_true] at h
  obtain ⟨h, hq⟩ := h
  have hq := Nat.le_of_ble_eq_true hq
  refine ⟨by simpa using hq, fun i o ho => ?_⟩
  have hi : i < ops.toList.length := by simpa using (Array.getElem?_eq_some_iff.1 ho).1
  have ho' : ops.toList[i]? = some o := by simpa using ho
  have := List.all_eq_true.1 h i (List.mem_range.2 hi)
  rw [ho'] at this
  simp only [Bool.and_eq_true] at this
  obtain ⟨h1, h2⟩ := this
  refine ⟨fun j hj => ?_, fun hiq => ?_, fun hiq => ?_⟩
  · have := List.all_eq_true.1 h1 j hj
    exact Nat.le_of_ble_eq_true this
  · rw [if_pos hiq] at h2
    simp only [Bool.and_eq_true] at h2
    refine ⟨Option.isSome_iff_exists.1 h2.1, fun j o' hj hoj => ?_⟩
    have hoj' : ops.toList[j]? = some o' := by simpa using hoj
    have := List.all_eq_true.1 h2.2 j (List.mem_range.2 hj)
    rw [hoj'] at this
    simp only [Bool.and_eq_true] at this
    refine ⟨fun hne heq => ?_, fun t ht hdt => ?_⟩
    · have h3 := this.1
      rw [heq] at h3
      simp at h3
      exact hne (Nat.eq_of_beq_eq_true (by simpa using h3))
    · have h3 := List.all_eq_true.1 this.2 t ht
      rw [hdt] at h3
      simpa using h3
  · rw [if_neg (by omega)] at h2
    simp only [Bool.and_eq_true, Bool.or_eq_true] at h2
    refine ⟨fun j hj => ?_, fun hne => ?_⟩
    · simpa using List.all_eq_true.1 h2.1 j (List.mem_range.2 hj)
    · rcases h2.2 with h3 | h3
      · exact absurd (Nat.eq_of_beq_eq_true h3) hne
      · simpa using h3

theorem mem_ready {ops : Array Oper} {A : Array Bool} {i : Nat} : i ∈ Region.ready .any ops A ↔ ∃ o, ops[i]? = some o ∧ A.getD i true = false ∧ ∀ j ∈ waits o, A.getD j false = true := by
  unfold Region.ready waits
  rw [List.mem_filter, List.mem_range]
  constructor
  · rintro ⟨h1, h2⟩
    simp only [Bool.and_eq_true, Bool.not_eq_true'] at h2
    obtain ⟨h2, h3⟩ := h2
    refine ⟨ops[i], by simp [h1], h2, fun j hj => ?_⟩
    obtain ⟨e, he, rfl⟩ := List.mem_map.1 hj
    obtain ⟨he1, he2⟩ := List.mem_filter.1 he
    simp only [h1, getElem?_pos, Option.map_some, Option.getD_some] at h3
    have := Array.all_eq_true'.1 h3 e (by simpa using he1)
    simpa [he2] using this
  · rintro ⟨o, h1, h2, h3⟩
    have hlt := (Array.getElem?_eq_some_iff.1 h1).1
    refine ⟨hlt, ?_⟩
    simp only [h2, h1, Bool.not_false, Bool.true_and, Option.map_some, Option.getD_some]
    rw [Array.all_eq_true']
    intro e he
    by_cases hb : Region.binds .any e = true
    · simp [hb, h3 e.on (List.mem_map.2 ⟨e, List.mem_filter.2 ⟨by simpa using he, hb⟩, rfl⟩)]
    · simp [hb]

/-- What a run of quiet operations says of each. -/
theorem QRun.facts {cf : Cfg} {ops : Array Oper} {mem : Mem} {l : List Oper} {env env' : Env} {m m' : Mem} (h : QRun cf ops mem l env m env' m') (hdist : ∀ (i j : Nat) (o o' : Oper), l[i]? = some o → l[j]? = some o' → i ≠ j → o'.dst ≠ o.dst) :
    (∀ t, (∀ o ∈ l, o.dst ≠ some t) → env' t = env t) ∧ (∀ t, (∀ o ∈ l, o.dst ≠ some t) → m' t = m t) ∧
    ∀ (i : Nat) (o : Oper), l[i]? = some o → ∃ d envi N, o.dst = some d ∧ d < cf.N ∧ QStep cf ops mem o d envi (env' d) N ∧ (∀ t, (∀ (j : Nat) (o' : Oper), i ≤ j → l[j]? = some o' → o'.dst ≠ some t) → envi t = env' t) ∧ m' d = (match N with | some b => some b | none => m d) := by
  induction h with
  | nil env m => exact ⟨fun _ _ => rfl, fun _ _ => rfl, fun i o h => by simp at h⟩
  | cons o rest d env m v N env' m' hd hN hs k ih =>
    have hdist' : ∀ (i j : Nat) (o o' : Oper), rest[i]? = some o → rest[j]? = some o' → i ≠ j → o'.dst ≠ o.dst := fun i j o1 o2 h1 h2 hne => hdist (i + 1) (j + 1) o1 o2 (by simpa using h1) (by simpa using h2) (by omega)
    obtain ⟨i1, i2, i3⟩ := ih hdist'
    have hdr : ∀ o' ∈ rest, o'.dst ≠ some d := fun o' ho' => by
      obtain ⟨j, hj⟩ := List.getElem?_of_mem ho'
      rw [← hd]
      exact hdist 0 (j + 1) o o' rfl (by simpa using hj) (by omega)
    have hud : ∀ t, t ≠ d → upd env d v t = env t := fun t ht => by
      unfold upd
      cases hb : Nat.beq t d with
      | false => rfl
      | true => exact absurd (Nat.eq_of_beq_eq_true hb) ht
    have had : ∀ t, t ≠ d → addB m d N t = m t := fun t ht => by
      cases N with
      | none => rfl
      | some b => exact mupd_other _ _ ht
    refine ⟨fun t ht => ?_, fun t ht => ?_, fun i o' ho' => ?_⟩
    · rw [i1 t fun o' ho' => ht o' (by simp [ho']), hud t (fun e => ht o (by simp) (by rw [hd, e]))]
    · rw [i2 t fun o' ho' => ht o' (by simp [ho']), had t (fun e => ht o (by simp) (by rw [hd, e]))]
    · cases i with
      | zero =>
        simp at ho'
        subst ho'
        have hv : env' d = v := by rw [i1 d hdr]; simp [upd]
        refine ⟨d, env, N, hd, hN, by rw [hv]; exact hs, fun t ht => ?_, ?_⟩
        · have htd : t ≠ d := fun e => ht 0 o (Nat.le_refl _) rfl (by rw [hd, e])
          rw [i1 t fun o' ho' => by
            obtain ⟨j, hj⟩ := List.getElem?_of_mem ho'
            exact ht (j + 1) o' (by omega) (by simpa using hj), hud t htd]
        · rw [i2 d hdr]
          cases N with
          | none => rfl
          | some b => exact mupd_same _ _ _
      | succ i =>
        have ho'' : rest[i]? = some o' := by simpa using ho'
        obtain ⟨d', envi, N', e1, e2, e3, e4, e5⟩ := i3 i o' ho''
        have hne : d' ≠ d := fun e => hdr o' (mem_of_at ho'') (by rw [e1, e])
        refine ⟨d', envi, N', e1, e2, e3, fun t ht => e4 t fun j o2 hj ho2 => ht (j + 1) o2 (by omega) (by simpa using ho2), ?_⟩
        rw [e5, had d' hne]

theorem guardV_congr {ops : Array Oper} {env env' : Env} {o : Oper} (h : ∀ t ∈ opTmps ops o, env t = env' t) : guardV ops env o.guard = guardV ops env' o.guard := by
  unfold guardV
  cases hg : o.guard with
  | none => rfl
  | some p =>
    obtain ⟨j, w⟩ := p
    simp only
    cases hj : ops.toList[j]? with
    | none => rfl
    | some o' =>
      simp only
      cases hd : o'.dst with
      | none => rfl
      | some t =>
        have : t ∈ opTmps ops o := by
          unfold opTmps
          rw [hg]
          simp only [hj, hd]
          simp
        simp only [h t this]

theorem evO_congr {ops : Array Oper} {env env' : Env} {o : Oper} (h : ∀ t ∈ opTmps ops o, env t = env' t) : ∀ x ∈ o.op.operands, evO env x = evO env' x := by
  intro x hx
  cases x with
  | tmp t =>
    refine h t ?_
    unfold opTmps
    exact List.mem_append_left _ (List.mem_filterMap.2 ⟨.tmp t, by simpa using hx, rfl⟩)
  | _ => rfl

/-- A quiet operation is carried out in a state that knows its slots, and the memory at the start. -/
theorem QVal.run {cf : Cfg} (hty : ∀ t, TyOk cf.P t (cf.ty t)) {c0 c : Cx} {w0 w : World} {envL : Env} {memL mem : Mem} {a : Act} {o : Oper} {d : Tmp} {envi : Env} {v : V} {N : Option Blk} (hi : Inv cf.G cf.N c0 w0 ⟨envL, memL⟩ c a w)
    (hx : ∀ x ∈ o.op.operands, evO envL x = evO envi x) (hsub : ∀ n b, mem n = some b → memL n = some b) (hd : memL d = mem d) (hdst : o.dst = some d) (hN : d < cf.N) (h : QVal cf mem o d envi v N) {K : Act → World → Prop} {Q : Exit → Act → World → Prop}
    (hk : ∀ c' a' w', Inv cf.G cf.N c0 w0 ⟨upd envL d v, addB memL d N⟩ c' a' w' → K a' w') : o.wp cf.P a w K Q := by
  have he : ∀ x ∈ o.op.operands, R c (evO envi x) (a.eval x) := fun x hx' => by rw [← hx x hx']; exact R_evO hi x
  have hput : ∀ t, o.dst = some t → t < cf.N := fun t e => by rw [hdst] at e; cases e; exact hN
  unfold Oper.wp
  cases h with
  | pick x y z t hop hc =>
    have hev := he x (by simp [hop, Op.operands])
    rw [hc] at hev
    have hev := hev.bool_inv
    have : (execOp a.eval o).run cf.P w = .ok (.value (if t then a.eval y else a.eval z)) w := by simp [execOp, hop, hev, asBool]
    rw [this, Oper.upon_value]
    refine hk c _ w ?_
    have := hi.putD (dst := o.dst) (v := if t then evO envi y else evO envi z) (u := if t then a.eval y else a.eval z) (by
      cases t
      · exact he z (by simp [hop, Op.operands])
      · exact he y (by simp [hop, Op.operands])) hput
    rw [hdst] at this ⊢
    exact this
  | call x args ts f caps r hop hx' hr =>
    have hev := he x (by simp [hop, Op.operands, Call.operands])
    rw [hx'] at hev
    generalize hevv : a.eval x = ev at hev
    cases hev with
    | fn _ _ vs hl hrs =>
    have h := hr memL hsub
    have : (execOp a.eval o).run cf.P w = (callFunc f ((args.toList.map a.eval ++ vs).toArray)).run cf.P w := by
      have hargs : (args.toList.map a.eval ++ vs).toArray = (args.map a.eval) ++ vs.toArray := by simp
      rw [hargs]
      simp [execOp, hop, resolve, Deferred.ofValue, hevv, invoke]
    rw [this]
    refine (h.run c w _ hi.sim hi.mem hi.good ⟨by simp [hl], fun i x v g1 g2 => ?_⟩).upon fun v w' ⟨c', r', ⟨e1, g1⟩, g2, g3, g4, g5, g6⟩ => ?_
    · by_cases hlt : i < args.toList.length
      · rw [List.getElem?_append_left (by simpa using hlt), List.getElem?_map] at g1 g2
        obtain ⟨y, hy, rfl⟩ := Option.map_eq_some_iff.1 g1
        rw [hy] at g2
        injection g2 with g2
        subst g2
        exact he y (by have := mem_of_at hy; simp at this; simp [hop, Op.operands, Call.operands, this])
      · rw [List.getElem?_append_right (by simpa using hlt)] at g1 g2
        simp only [List.length_map] at g1 g2
        exact hrs _ x v g1 g2
    · subst e1
      have := (hi.go g2 g3 g4 g6).putD (dst := o.dst) g5 hput
      rw [g1, hdst] at this
      rw [hdst]
      exact hk c' _ w' this
  | new p v N hA hp hm hd1 =>
    obtain ⟨u, w', c', e1, e2, e3⟩ := evA_sound (P := cf.P) hty (e := a.eval) (o := o) he (by rw [← hd]; exact (congrFun hi.mem d).symm) hi.sim hA hp
    rw [e1, Oper.upon_value, hdst]
    have hmm := e2.mem
    have hwas : ∀ n, 1000 ≤ n → c'.mem n ≠ none → c.mem n ≠ none := fun n hn hne => by
      cases N with
      | none => simp only [Option.map_none] at hmm; rw [hmm] at hne; exact hne
      | some b => simp only [Option.map_some] at hmm; rw [hmm, mupd_other _ _ (show n ≠ d from fun e => absurd hn (Nat.not_le.2 (e ▸ hd1)))] at hne; exact hne
    have := (hi.go e2.ext e2.mono e2.sim hwas).putD (dst := some d) e3 (by rw [← hdst]; exact hput)
    refine hk c' _ w' ?_
    cases N with
    | none => simp only [Option.map_none] at hmm; rw [hmm, hi.mem] at this; exact this
    | some b => simp only [Option.map_some] at hmm; rw [hmm, hi.mem] at this; exact this
  | quiet v hq =>
    obtain ⟨u, e1, e2⟩ := evQ_sound (P := cf.P) hty (e := a.eval) (o := o) he (fun n b hb => by rw [hi.mem]; exact hsub n b hb) hi.sim hq
    rw [e1, Oper.upon_value, hdst]
    exact hk c _ w (hi.putD (dst := some d) e2 (by rw [← hdst]; exact hput))
end Go.Ab

/- Regions that draw their order: the condition suffices. -/
namespace Go.Ab

theorem vcOps_step {cf : Cfg} (hty : ∀ t, TyOk cf.P t (cf.ty t)) {c0 c : Cx} {w0 w : World} {ops : Array Oper} {Q' : Exit → Act → World → Prop} {K : Env → Mem → Prop} {o : Oper} {rest : List Oper} {env : Env} {mem : Mem} {a : Act} {K' : Act → World → Prop}
    (h : vcOps cf ops (o :: rest) env mem K) (hi : Inv cf.G cf.N c0 w0 ⟨env, mem⟩ c a w) (hk : ∀ env' mem' c' a' w', vcOps cf ops rest env' mem' K → Inv cf.G cf.N c0 w0 ⟨env', mem'⟩ c' a' w' → K' a' w') :
    if Region.wanted o (yielded ops a.tmps) then o.wp cf.P a w K' Q' ∨ (o.asks cf.P a w ∧ LetsOut Q') else K' (a.put o.dst undef) w := by
  unfold vcOps at h
  have hg := guard_at (ops := ops) (o := o) hi
  have skip : ∀ {env : Env} {mem : Mem} {c : Cx}, Inv cf.G cf.N c0 w0 ⟨env, mem⟩ c a w → fin cf o.dst env (.lit undef) (fun env => vcOps cf ops rest env mem K) → K' (a.put o.dst undef) w := fun hi h => by
    obtain ⟨h1, h2⟩ := fin_spec h
    exact hk _ _ _ _ _ h1 (hi.putD (.lit undef) h2)
  have want : ∀ {env : Env} {mem : Mem} {c : Cx}, Inv cf.G cf.N c0 w0 ⟨env, mem⟩ c a w → vcOp cf o env mem (fun env mem => vcOps cf ops rest env mem K) → o.wp cf.P a w K' Q' := fun hi h =>
    vcOp_sound hty h hi fun env' mem' c' a' w' g1 g2 => hk _ _ _ _ _ g1 g2
  simp only at hg
  split at h
  · rename_i hgv
    rw [hgv] at hg
    simp only [hg, if_true]
    exact .inl (want hi h)
  · rename_i hgv
    rw [hgv] at hg
    simp only [hg, Bool.false_eq_true, if_false]
    exact skip hi h
  · rename_i t b wn hgv
    rw [hgv] at hg
    obtain ⟨h1, h2⟩ := hg
    split at h
    · split at h
      · simp only [h2, BEq.rfl, if_true]
        exact .inl (want (hi.setT h1) h)
      · have : (true == false) = false := rfl
        simp only [h2, this, Bool.false_eq_true, if_false]
        exact skip (hi.setT h1) h
    · split at h
      · simp only [h2, BEq.rfl, if_true]
        exact .inl (want (hi.setT h1) h)
      · have : (false == true) = false := rfl
        simp only [h2, this, Bool.false_eq_true, if_false]
        exact skip (hi.setT h1) h
  · exact h.elim

theorem getD_set {A : Array Bool} {i j : Nat} {x : Bool} (hi : i < A.size) : (A.setIfInBounds i true).getD j x = if j = i then true else A.getD j x := by
  by_cases h : j = i
  · subst h; simp [Array.getD, hi]
  · rw [if_neg h]
    simp only [Array.getD_eq_getD_getElem?]
    rw [Array.getElem?_setIfInBounds, if_neg (fun e => h e.symm)]

section
variable {cf : Cfg} {ops : Array Oper} {q : Nat} {c0 : Cx} {w0 : World} {Q' : Exit → Act → World → Prop} {K : Env → Mem → Prop}

/-- The rest: one behind the other. -/
theorem draw_tail (hty : ∀ t, TyOk cf.P t (cf.ty t)) (hb : drawB q ops = true) (hk : ∀ env' mem' c' a' w', K env' mem' → Inv cf.G cf.N c0 w0 ⟨env', mem'⟩ c' a' w' → Q' .normal a' w') :
    ∀ (u k : Nat) (A : Array Bool) (env : Env) (mem : Mem) (c : Cx) (a : Act) (w : World), q ≤ k → k + u = ops.size → A.size = ops.size → (∀ i, i < k → A.getD i false = true) → (∀ i, k ≤ i → i < ops.size → A.getD i true = false) →
      vcOps cf ops (ops.toList.drop k) env mem K → Inv cf.G cf.N c0 w0 ⟨env, mem⟩ c a w → wpAny cf.P .any ops Q' u A a w
  | 0, k, A, env, mem, c, a, w, hq, hku, hA, h1, h2, h, hi => by
    have hnil : Region.ready .any ops A = [] := by
      rw [List.eq_nil_iff_forall_not_mem]
      intro i hi
      obtain ⟨o, e1, e2, _⟩ := mem_ready.1 hi
      have hlt := (Array.getElem?_eq_some_iff.1 e1).1
      have := h1 i (by omega)
      have hs : i < A.size := by omega
      simp [Array.getD, hs] at this e2
      rw [this] at e2; cases e2
    refine ⟨hnil, ?_⟩
    rw [List.drop_eq_nil_of_le (by simp; omega)] at h
    exact hk _ _ _ _ _ h hi
  | u + 1, k, A, env, mem, c, a, w, hq, hku, hA, h1, h2, h, hi => by
    obtain ⟨_, hspec⟩ := drawB_spec hb
    have hklt : k < ops.size := by omega
    have hok : ops[k]? = some ops[k] := by simp [hklt]
    have hready : k ∈ Region.ready .any ops A := mem_ready.2 ⟨ops[k], hok, h2 k (Nat.le_refl _) hklt, fun j hj => h1 j ((hspec k _ hok).1 j hj)⟩
    refine ⟨fun e => (by rw [e] at hready; cases hready), fun i hir => ?_⟩
    obtain ⟨o, e1, e2, e3⟩ := mem_ready.1 hir
    have hilt := (Array.getElem?_eq_some_iff.1 e1).1
    have hik : i = k := by
      rcases Nat.lt_trichotomy i k with h3 | h3 | h3
      · have := h1 i h3
        have hs : i < A.size := by omega
        simp [Array.getD, hs] at this e2
        rw [this] at e2; cases e2
      · exact h3
      · have h4 := ((hspec i o e1).2.2 (by omega)).2 (by omega)
        have h5 : A.getD (i - 1) false = true := reach_listed (L := fun j => A.getD j false = true) (fun k' o' hk' hl j hj => by
          have hlt := (hspec k' o' hk').1 j hj
          have hkk : k' < k := by
            rcases Nat.lt_or_ge k' k with h | h
            · exact h
            · have hkl := (Array.getElem?_eq_some_iff.1 hk').1
              have := h2 k' h hkl
              have hs : k' < A.size := by omega
              simp [Array.getD, hs] at this hl
              rw [hl] at this; cases this
          exact h1 j (by omega)) 6 o (i - 1) e3 h4
        have h6 := h2 (i - 1) (by omega) (by omega)
        have hs : i - 1 < A.size := by omega
        simp [Array.getD, hs] at h5 h6
        rw [h5] at h6; cases h6
    subst hik
    have hdrop : ops.toList.drop i = o :: ops.toList.drop (i + 1) := by
      have : ops.toList[i]? = some o := by simpa using e1
      obtain ⟨hl, hv⟩ := List.getElem?_eq_some_iff.1 this
      rw [List.drop_eq_getElem_cons hl, hv]
    rw [hdrop] at h
    unfold wpOp
    rw [e1]
    refine vcOps_step hty h hi fun env' mem' c' a' w' g1 g2 => ?_
    refine draw_tail hty hb hk u (i + 1) (A.setIfInBounds i true) env' mem' c' a' w' (by omega) (by omega) (by simpa using hA) (fun j hj => ?_) (fun j hj hjl => ?_) g1 g2
    · rw [getD_set (by omega)]
      split
      · rfl
      · exact h1 j (by omega)
    · rw [getD_set (by omega), if_neg (by omega)]
      exact h2 j (by omega) hjl

def cntU (A : Array Bool) : Nat → Nat
  | 0 => 0
  | q + 1 => cntU A q + (if A.getD q true = false then 1 else 0)
theorem cntU_set {A : Array Bool} {i : Nat} (hi : i < A.size) (hA : A.getD i true = false) : ∀ q, cntU (A.setIfInBounds i true) q + (if i < q then 1 else 0) = cntU A q
  | 0 => rfl
  | q + 1 => by
    have ih := cntU_set hi hA q
    unfold cntU
    rw [getD_set hi]
    by_cases h : q = i
    · subst h
      rw [if_neg (Nat.lt_irrefl q)] at ih
      simp only [if_true, hA, Nat.lt_succ_self]
      simp
      omega
    · simp only [h, if_false]
      by_cases h2 : i < q
      · rw [if_pos h2] at ih
        rw [if_pos (show i < q + 1 by omega)]
        omega
      · rw [if_neg h2] at ih
        rw [if_neg (show ¬ i < q + 1 by omega)]
        omega
theorem cntU_zero {A : Array Bool} : ∀ q, cntU A q = 0 → ∀ i, i < q → A.getD i true = true
  | q + 1, h, i, hi => by
    unfold cntU at h
    by_cases hq : i = q
    · subst hq
      cases hb : A.getD i true with
      | true => rfl
      | false => rw [hb] at h; simp at h
    · exact cntU_zero q (by omega) i (by omega)
theorem cntU_pos {A : Array Bool} : ∀ q, 0 < cntU A q → ∃ i, i < q ∧ A.getD i true = false ∧ ∀ j, j < i → A.getD j true = true
  | 0, h => by simp [cntU] at h
  | q + 1, h => by
    by_cases hq : 0 < cntU A q
    · obtain ⟨i, h1, h2, h3⟩ := cntU_pos q hq
      exact ⟨i, by omega, h2, h3⟩
    · unfold cntU at h
      cases hb : A.getD q true with
      | true => rw [hb] at h; simp at h; omega
      | false => exact ⟨q, by omega, hb, fun j hj => cntU_zero q (by omega) j hj⟩
end

/-- A slot whose operation is still to come. -/
def Unl (ops : Array Oper) (q : Nat) (A : Array Bool) (t : Nat) : Prop := ∃ i o, i < q ∧ A.getD i true = false ∧ ops[i]? = some o ∧ o.dst = some t
open Classical in
noncomputable def envL (ops : Array Oper) (q : Nat) (A : Array Bool) (e0 eF : Env) : Env := fun t => if Unl ops q A t then e0 t else eF t
open Classical in
noncomputable def memL (ops : Array Oper) (q : Nat) (A : Array Bool) (m0 mF : Mem) : Mem := fun t => if Unl ops q A t then m0 t else mF t

theorem Inv.drew {G : Given} {N : Nat} {c0 c : Cx} {w0 w : World} {st : St} {a : Act} (h : Inv G N c0 w0 st c a w) : Inv G N c0 w0 st c a { w with drawn := w.drawn + 1 } :=
  ⟨h.mem, ⟨fun b o v hv => h.sim.stab b o v hv, fun n b hb => h.sim.ok n b hb, h.sim.inj⟩, h.env, ⟨h.ext.os, h.ext.tape, h.ext.output, h.ext.size, h.ext.frame, h.ext.S, h.ext.newS, h.ext.own⟩, h.keep, h.good, h.size, h.defers⟩

/-- **A region that draws its order**: quiet operations (the first q), then the rest one behind the other. -/
theorem DrawOK.intro {cf : Cfg} (hty : ∀ t, TyOk cf.P t (cf.ty t)) (hm : cf.P.follows .mixedOrders = true) {id : Nat} {ops : Array Oper} {env : Env} {mem : Mem} {Q : Exit → Env → Mem → Prop} (q : Nat) (hb : drawB q ops = true)
    (h : vcQR cf ops mem (ops.toList.take q) env mem fun env m => vcOpsR cf ops (ops.toList.drop q) env m fun env m => Q .normal env m) : DrawOK cf id ops env mem Q := by
  simp only [vcQR_eq, vcOpsR_eq] at h
  obtain ⟨hqn, hspec⟩ := drawB_spec hb
  obtain ⟨eF, mF, hrun, htail⟩ := vcQ_sound _ _ _ h
  have hat : ∀ (i : Nat) (o : Oper), (ops.toList.take q)[i]? = some o ↔ i < q ∧ ops[i]? = some o := fun i o => by
    rw [List.getElem?_take]
    split
    · rename_i hi; simp [hi]
    · rename_i hi; simp [hi]
  have hdist : ∀ (i j : Nat) (o o' : Oper), (ops.toList.take q)[i]? = some o → (ops.toList.take q)[j]? = some o' → i ≠ j → o'.dst ≠ o.dst := fun i j o o' h1 h2 hne => by
    obtain ⟨a1, a2⟩ := (hat i o).1 h1
    obtain ⟨b1, b2⟩ := (hat j o').1 h2
    exact (((hspec i o a2).2.1 a1).2 j o' b1 b2).1 hne
  obtain ⟨f1, f2, f3⟩ := hrun.facts hdist
  refine ⟨fun c0 w0 c a w hi Q' hQ => wp_region_any hm ?_⟩
  have key : ∀ (u : Nat) (A : Array Bool) (c : Cx) (a : Act) (w : World), cntU A q = u → (∀ k o, ops[k]? = some o → A.getD k false = true → ∀ j ∈ waits o, A.getD j false = true) → A.size = ops.size → (∀ i, q ≤ i → i < ops.size → A.getD i true = false) → Inv cf.G cf.N c0 w0 ⟨envL ops q A env eF, memL ops q A mem mF⟩ c a w → wpAny cf.P .any ops Q' (ops.size - q + u) A a w := by
    intro u
    induction u with
    | zero =>
      intro A c a w hu _ hA h2 hi
      have hall := cntU_zero q hu
      have hno : ∀ t, ¬ Unl ops q A t := fun t ⟨i, o, h3, h4, _⟩ => by rw [hall i h3] at h4; cases h4
      have he : envL ops q A env eF = eF := by funext t; simp [envL, hno t]
      have hme : memL ops q A mem mF = mF := by funext t; simp [memL, hno t]
      rw [he, hme] at hi
      refine draw_tail hty hb (fun env' mem' c' a' w' g1 g2 => hQ _ _ _ _ _ _ g2 g1) (ops.size - q + 0) q A eF mF c a w (Nat.le_refl _) (by omega) hA (fun i hiq => ?_) h2 htail hi
      have := hall i hiq
      have hs : i < A.size := by omega
      simpa [Array.getD, hs] using this
    | succ u ih =>
      intro A c a w hu hcl hA h2 hi
      obtain ⟨i0, p1, p2, p3⟩ := cntU_pos (A := A) q (by omega)
      have hi0 : i0 < ops.size := by omega
      have hok0 : ops[i0]? = some ops[i0] := by simp [hi0]
      have hr0 : i0 ∈ Region.ready .any ops A := mem_ready.2 ⟨ops[i0], hok0, p2, fun j hj => by
        have hlt := (hspec i0 _ hok0).1 j hj
        have := p3 j hlt
        have hs : j < A.size := by omega
        simpa [Array.getD, hs] using this⟩
      rw [show ops.size - q + (u + 1) = (ops.size - q + u) + 1 by omega]
      refine ⟨fun e => (by rw [e] at hr0; cases hr0), fun i hir => ?_⟩
      obtain ⟨o, e1, e2, e3⟩ := mem_ready.1 hir
      have hilt := (Array.getElem?_eq_some_iff.1 e1).1
      have hiq : i < q := by
        rcases Nat.lt_or_ge i q with h | h
        · exact h
        · have h5 : A.getD i0 false = true := reach_listed (L := fun j => A.getD j false = true) hcl 6 o i0 e3 (((hspec i o e1).2.2 h).1 i0 p1)
          have hs : i0 < A.size := by omega
          simp [Array.getD, hs] at h5 p2
          rw [h5] at p2; cases p2
      obtain ⟨d, envi, N, k1, k2, k3, k4, k5⟩ := f3 i o ((hat i o).2 ⟨hiq, e1⟩)
      obtain ⟨_, hdeps⟩ := (hspec i o e1).2.1 hiq
      have hUd : Unl ops q A d := ⟨i, o, hiq, e2, e1, k1⟩
      have hdi : ∀ (j : Nat) (o' : Oper), j < q → ops[j]? = some o' → o'.dst = some d → j = i := fun j o' hj hoj hdj => by
        rcases Nat.decEq i j with hne | heq
        · exact absurd (hdj.trans k1.symm) ((hdeps j o' hj hoj).1 hne)
        · exact heq.symm
      have htm : ∀ t ∈ opTmps ops o, envL ops q A env eF t = envi t := fun t ht => by
        have hnU : ¬ Unl ops q A t := fun ⟨j, o', h3, h4, h5, h6⟩ => by
          have h7 := e3 j ((hdeps j o' h3 h5).2 t ht h6)
          have hs : j < A.size := by omega
          simp [Array.getD, hs] at h4 h7
          rw [h4] at h7; cases h7
        have h8 : envi t = eF t := k4 t fun j o' hij ho' hdj => by
          obtain ⟨b1, b2⟩ := (hat j o').1 ho'
          have := (hspec i o e1).1 j ((hdeps j o' b1 b2).2 t ht hdj)
          omega
        rw [h8]
        simp [envL, hnU]
      have hset : ∀ t, Unl ops q (A.setIfInBounds i true) t ↔ Unl ops q A t ∧ t ≠ d := fun t => by
        constructor
        · rintro ⟨j, o', h3, h4, h5, h6⟩
          rw [getD_set (by omega)] at h4
          split at h4
          · cases h4
          · rename_i hji
            exact ⟨⟨j, o', h3, h4, h5, h6⟩, fun e => hji (hdi j o' h3 h5 (by rw [h6, e]))⟩
        · rintro ⟨⟨j, o', h3, h4, h5, h6⟩, hne⟩
          refine ⟨j, o', h3, ?_, h5, h6⟩
          rw [getD_set (by omega), if_neg]
          · exact h4
          · rintro rfl
            rw [e1] at h5; injection h5 with h5; subst h5
            rw [k1] at h6; injection h6 with h6
            exact hne h6.symm
      have henv : ∀ v, eF d = v → upd (envL ops q A env eF) d v = envL ops q (A.setIfInBounds i true) env eF := fun v hv => by
        funext t
        unfold upd
        cases hbt : Nat.beq t d with
        | true =>
          have := Nat.eq_of_beq_eq_true hbt
          subst this
          have : ¬ Unl ops q (A.setIfInBounds i true) t := fun h => ((hset t).1 h).2 rfl
          simp [envL, this, hv]
        | false =>
          have hne : t ≠ d := by rintro rfl; rw [Nat.beq_refl] at hbt; cases hbt
          by_cases hU : Unl ops q A t
          · simp [envL, hU, (hset t).2 ⟨hU, hne⟩]
          · have : ¬ Unl ops q (A.setIfInBounds i true) t := fun h => hU ((hset t).1 h).1
            simp [envL, hU, this]
      have hmem : addB (memL ops q A mem mF) d N = memL ops q (A.setIfInBounds i true) mem mF := by
        funext t
        by_cases ht : t = d
        · subst ht
          have hnU : ¬ Unl ops q (A.setIfInBounds i true) t := fun h => ((hset t).1 h).2 rfl
          have : memL ops q (A.setIfInBounds i true) mem mF t = mF t := by simp [memL, hnU]
          rw [this, k5]
          cases N with
          | none => simp [addB, memL, hUd]
          | some b => exact mupd_same _ _ _
        · have : addB (memL ops q A mem mF) d N t = memL ops q A mem mF t := by
            cases N with
            | none => rfl
            | some b => exact mupd_other _ _ ht
          rw [this]
          by_cases hU : Unl ops q A t
          · simp [memL, hU, (hset t).2 ⟨hU, ht⟩]
          · have : ¬ Unl ops q (A.setIfInBounds i true) t := fun h => hU ((hset t).1 h).1
            simp [memL, hU, this]
      have hnext : ∀ (v : V) (c' : Cx) (a' : Act) (w' : World), eF d = v → Inv cf.G cf.N c0 w0 ⟨upd (envL ops q A env eF) d v, addB (memL ops q A mem mF) d N⟩ c' a' w' → wpAny cf.P .any ops Q' (ops.size - q + u) (A.setIfInBounds i true) a' w' := fun v c' a' w' hv hi' => by
        rw [henv v hv, hmem] at hi'
        refine ih _ c' a' w' ?_ (fun k' o' hk' hl j hj => ?_) (by simpa using hA) (fun j hj hjl => ?_) hi'
        · have := cntU_set (A := A) (i := i) (by omega) e2 q
          rw [if_pos hiq] at this
          omega
        · rw [getD_set (by omega)] at hl ⊢
          split
          · rfl
          · split at hl
            · rename_i hki
              subst hki
              rw [e1] at hk'; injection hk' with hk'; subst hk'
              exact e3 j hj
            · exact hcl k' o' hk' hl j hj
        · rw [getD_set (by omega), if_neg (by omega)]
          exact h2 j hj hjl
      have hsub : ∀ n b, mem n = some b → memL ops q A mem mF n = some b := fun n b hn => by
        by_cases hU : Unl ops q A n
        · simp [memL, hU, hn]
        · simp only [memL, hU, if_false]
          by_cases hd : ∃ o' ∈ ops.toList.take q, o'.dst = some n
          · obtain ⟨o', ho', hdo⟩ := hd
            obtain ⟨j, hj⟩ := List.getElem?_of_mem ho'
            obtain ⟨d', envj, Nj, g1, _, g3, _, g5⟩ := f3 j o' hj
            rw [hdo] at g1; injection g1 with g1; subst g1
            have hN : Nj = none := by
              have nv : ∀ {v : V} {N : Option Blk}, QVal cf mem o' n envj v N → N = none := fun h => by
                cases h with
                | new p v N hA hp hmn hd1 => rw [hmn] at hn; cases hn
                | _ => rfl
              generalize eF n = v at g3
              cases g3 with
              | want v N h k => exact nv k
              | yes t b w v N h hb k => exact nv k
              | _ => rfl
            rw [g5, hN]; exact hn
          · rw [f2 n fun o' ho' hdo => hd ⟨o', ho', hdo⟩]; exact hn
      have hmd : memL ops q A mem mF d = mem d := by simp [memL, hUd]
      have hg := guard_at (ops := ops) (o := o) hi
      simp only at hg
      rw [guardV_congr htm] at hg
      have hx := evO_congr htm
      have runv : ∀ {v : V}, eF d = v → QVal cf mem o d envi v N → o.wp cf.P a w (wpAny cf.P .any ops Q' (ops.size - q + u) (A.setIfInBounds i true)) Q' := fun {v} hv hq =>
        hq.run hty hi hx hsub hmd k1 k2 fun c' a' w' hi' => hnext v c' a' w' hv hi'
      have skipv : eF d = .lit undef → N = none → wpAny cf.P .any ops Q' (ops.size - q + u) (A.setIfInBounds i true) (a.put o.dst undef) w := fun hv hN => by
        have := hi.putD (dst := o.dst) (.lit undef) (fun t e => by rw [k1] at e; cases e; exact k2)
        rw [k1] at this ⊢
        refine hnext (.lit undef) c _ w hv ?_
        rw [hN]; exact this
      unfold wpOp
      rw [e1]
      simp only
      generalize hv : eF d = v at k3
      cases k3 with
      | want v N hgv k =>
        rw [hgv] at hg
        simp only [hg, if_true]
        exact .inl (runv hv k)
      | yes t b w v N hgv hbw k =>
        rw [hgv] at hg
        subst hbw
        simp only [hg.2, BEq.rfl, if_true]
        exact .inl (runv hv k)
      | no t b w hgv hbw =>
        rw [hgv] at hg
        have : (b == w) = false := by simpa using hbw
        simp only [hg.2, this, Bool.false_eq_true, if_false]
        exact skipv hv rfl
      | skip hgv =>
        rw [hgv] at hg
        simp only [hg, Bool.false_eq_true, if_false]
        exact skipv hv rfl
  have hrep : ∀ i, i < ops.size → (Array.replicate ops.size false).getD i true = false := fun i hi => by simp [Array.getD, hi]
  have hcnt : ∀ q', q' ≤ ops.size → cntU (Array.replicate ops.size false) q' = q' := by
    intro q'
    induction q' with
    | zero => intro _; rfl
    | succ q' ih => intro hq'; unfold cntU; rw [ih (by omega), hrep q' (by omega)]; rfl
  have hi1 : Inv cf.G cf.N c0 w0 ⟨envL ops q (Array.replicate ops.size false) env eF, memL ops q (Array.replicate ops.size false) mem mF⟩ c a { w with drawn := w.drawn + 1 } := by
    have hU : ∀ t, ¬ Unl ops q (Array.replicate ops.size false) t → ∀ o ∈ ops.toList.take q, o.dst ≠ some t := fun t hn o ho hd => by
      obtain ⟨i, hi⟩ := List.getElem?_of_mem ho
      obtain ⟨b1, b2⟩ := (hat i o).1 hi
      exact hn ⟨i, o, b1, hrep i (by omega), b2, hd⟩
    have he : envL ops q (Array.replicate ops.size false) env eF = env := by
      funext t
      by_cases hn : Unl ops q (Array.replicate ops.size false) t
      · simp [envL, hn]
      · simp only [envL, hn, if_false]; exact f1 t (hU t hn)
    have hme : memL ops q (Array.replicate ops.size false) mem mF = mem := by
      funext t
      by_cases hn : Unl ops q (Array.replicate ops.size false) t
      · simp [memL, hn]
      · simp only [memL, hn, if_false]; exact f2 t (hU t hn)
    rw [he, hme]
    exact hi.drew
  have := key q (Array.replicate ops.size false) c a _ (hcnt q hqn) (fun k o hk hl => by
    have hlt := (Array.getElem?_eq_some_iff.1 hk).1
    simp [Array.getD, hlt] at hl) (by simp) (fun i _ hi => hrep i hi) hi1
  rwa [Nat.sub_add_cancel hqn] at this
end Go.Ab

/- Regions in which calls that write stand among quiet operations. -/
namespace Go.Ab

/-- **An operation**, where only what it looks at is known. -/
theorem vcOp_soundG {cf : Cfg} (hty : ∀ t, TyOk cf.P t (cf.ty t)) {c0 c : Cx} {w0 w : World} {env envA : Env} {mem : Mem} {a : Act} {o : Oper} {K : Env → Mem → Prop} (h : vcOp cf o env mem K) (hi : Inv cf.G cf.N c0 w0 ⟨envA, mem⟩ c a w) (hopr : ∀ x ∈ o.op.operands, R c (evO env x) (a.eval x))
    {K' : Act → World → Prop} {Q : Exit → Act → World → Prop} (hk : ∀ v mem' c' a' w', K (put env o.dst v) mem' → Inv cf.G cf.N c0 w0 ⟨put envA o.dst v, mem'⟩ c' a' w' → K' a' w') : o.wp cf.P a w K' Q := by
  unfold vcOp at h
  unfold Oper.wp
  split at h
  · rename_i T x y hop
    rw [forceK_eq] at h
    obtain ⟨n, b, h1, h2⟩ := SR.of_vc h
    obtain ⟨h2, hd⟩ := fin_spec h2
    rw [← show c.mem = mem from hi.mem] at h1
    obtain ⟨w', c', e1, e2⟩ := storeR_sound (P := cf.P) hty hi.sim (hopr x (by rw [hop]; simp [Op.operands, Call.operands])) (hopr y (by rw [hop]; simp [Op.operands, Call.operands])) h1
    have : (execOp a.eval o).run cf.P w = .ok .skip w' := by simp [execOp, hop, e1]
    rw [this]
    refine hk _ _ c' _ w' h2 ?_
    have := (hi.go e2.ext e2.mono e2.sim e2.was).putD (dst := o.dst) (.lit undef) hd
    rw [e2.mem, hi.mem] at this
    exact this
  · rename_i x y z hop
    split at h
    · rename_i t hb
      have hx := hopr x (by rw [hop]; simp [Op.operands, Call.operands])
      rw [hb] at hx
      generalize hev : a.eval x = ev at hx
      cases hx
      rcases brK_cases h with ⟨rfl, h7⟩ | ⟨rfl, h7⟩ <;> clear h
      · rw [setK_eq] at h7
        obtain ⟨h, hd⟩ := fin_spec h7
        have : (execOp a.eval o).run cf.P w = .ok (.value (a.eval y)) w := by simp [execOp, hop, hev, asBool]
        rw [this]
        rw [setB_same hb] at h
        exact hk _ _ c _ w h (hi.putD (hopr y (by rw [hop]; simp [Op.operands, Call.operands])) hd)
      · rw [setK_eq] at h7
        obtain ⟨h, hd⟩ := fin_spec h7
        have : (execOp a.eval o).run cf.P w = .ok (.value (a.eval z)) w := by simp [execOp, hop, hev, asBool]
        rw [this]
        rw [setB_same hb] at h
        exact hk _ _ c _ w h (hi.putD (hopr z (by rw [hop]; simp [Op.operands, Call.operands])) hd)
    · exact h.elim
  · rename_i x args ats hop
    split at h
    · rename_i f caps hx
      have hr := hopr x (by rw [hop]; simp [Op.operands, Call.operands])
      rw [hx] at hr
      generalize hev : a.eval x = ev at hr
      cases hr with
      | fn _ _ vs hl hrs =>
      have : (execOp a.eval o).run cf.P w = (callFunc f ((args.toList.map a.eval ++ vs).toArray)).run cf.P w := by
        have hargs : (args.toList.map a.eval ++ vs).toArray = (args.map a.eval) ++ vs.toArray := by simp
        rw [hargs]
        simp [execOp, hop, resolve, Deferred.ofValue, hev, invoke]
      rw [this]
      refine (h.run c w _ hi.sim hi.mem hi.good ⟨by simp [hl], fun i x v g1 g2 => ?_⟩).upon fun v w' ⟨c', r, g1, g2, g3, g4, g5, g6⟩ => ?_
      · by_cases hlt : i < args.toList.length
        · rw [List.getElem?_append_left (by simpa using hlt), List.getElem?_map] at g1 g2
          obtain ⟨y, hy, rfl⟩ := Option.map_eq_some_iff.1 g1
          rw [hy] at g2
          injection g2 with g2
          subst g2
          exact hopr y (by have := mem_of_at hy; rw [hop]; simp [Op.operands, Call.operands] at this ⊢; simp [this])
        · rw [List.getElem?_append_right (by simpa using hlt)] at g1 g2
          simp only [List.length_map] at g1 g2
          exact hrs _ x v g1 g2
      · obtain ⟨g1, hd⟩ := fin_spec g1
        exact hk _ _ c' _ w' g1 ((hi.go g2 g3 g4 g6).putD g5 hd)
    · exact h.elim
  · rename_i x name args ats hop
    split at h
    · rename_i t y hx
      obtain ⟨f, y', hinv, h⟩ := h
      have hr := hopr x (by rw [hop]; simp [Op.operands, Call.operands])
      rw [hx] at hr
      generalize hev : a.eval x = ev at hr
      cases hr with
      | iface _ _ u hr =>
      obtain ⟨u2, hm, hr⟩ := hinv c u w hr
      have : (execOp a.eval o).run cf.P w = (callFunc f ((u2 :: args.toList.map a.eval).toArray)).run cf.P w := by
        have hargs : (u2 :: args.toList.map a.eval).toArray = #[u2] ++ (args.map a.eval) := by simp
        rw [hargs]
        simp only [execOp, hop, resolve, Sem.run_bind, Sem.run_pure, Result.andThen_ok, invoke, hev]
        simp only [Array.getElem?_append, callMethod]
        have hp : (program : Sem Program).run cf.P w = .ok cf.P w := rfl
        have hx : (Array.map a.eval args).extract 0 args.size = Array.map a.eval args := by
          rw [show args.size = (Array.map a.eval args).size by simp]; exact Array.extract_size
        simp [hm, hp, hx, Result.andThen_ok]
      rw [this]
      refine (h.run c w _ hi.sim hi.mem hi.good ⟨by simp, fun i x v g1 g2 => ?_⟩).upon fun v w' ⟨c', r, g1, g2, g3, g4, g5, g6⟩ => ?_
      · cases i with
        | zero => simp only [List.getElem?_cons_zero, Option.some.injEq] at g1 g2; subst g1 g2; exact hr
        | succ i =>
          simp only [List.getElem?_cons_succ, List.getElem?_map] at g1 g2
          obtain ⟨y, hy, rfl⟩ := Option.map_eq_some_iff.1 g1
          rw [hy] at g2
          simp only [Option.map_some, Option.some.injEq] at g2
          subst g2
          exact hopr y (by have := mem_of_at hy; rw [hop]; simp [Op.operands, Call.operands] at this ⊢; simp [this])
      · obtain ⟨g1, hd⟩ := fin_spec g1
        exact hk _ _ c' _ w' g1 ((hi.go g2 g3 g4 g6).putD g5 hd)
    · exact h.elim
  · rename_i T g hop
    split at h
    · rename_i v hg ha hu
      obtain ⟨h, hd⟩ := fin_spec h
      have hcell := hi.sim.stab g 0 v (hi.good _ (gfind_mem hg))
      have hrun : (Instr.loadAt T (a.eval (.global g))).run cf.P w = .ok v w := by
        show (Instr.loadAt T (.pointer (some ⟨g, 0, none⟩))).run cf.P w = .ok v w
        rw [run_loadAt, run_loadVar_leaf (hty T) (TD.isUnk_false hu) ha hcell]
      have : (execOp a.eval o).run cf.P w = .ok (.value v) w := by simp [execOp, hop, hrun]
      rw [this, Oper.upon_value]
      exact hk _ _ c _ w h (hi.putD (gV_R c v) hd)
    · exact h.elim
  · rename_i x xT T hop
    split at h
    · rename_i t y hx
      obtain ⟨b, hasr, h⟩ := h
      have hr := hopr x (by rw [hop]; simp [Op.operands, Call.operands])
      rw [hx] at hr
      generalize hev : a.eval x = ev at hr
      cases hr with
      | iface _ _ u hr =>
      have hm := hasr u xT w
      cases b with
      | true =>
        obtain ⟨h, hd⟩ := fin_spec h
        have : (execOp a.eval o).run cf.P w = .ok (.value (.tuple #[.iface t u, .bool true])) w := by simp [execOp, hop, hev, hm]
        rw [this, Oper.upon_value]
        refine hk _ _ c _ w h (hi.putD (.tup _ [.iface t u, .bool true] rfl fun i x v g1 g2 => ?_) hd)
        match i with
        | 0 => simp only [List.getElem?_cons_zero, Option.some.injEq] at g1 g2; subst g1 g2; exact .iface _ _ _ hr
        | 1 => simp only [List.getElem?_cons_succ, List.getElem?_cons_zero, Option.some.injEq] at g1 g2; subst g1 g2; exact .bool _
        | i + 2 => simp at g1
      | false =>
        obtain ⟨h, hd⟩ := fin_spec h
        have : (execOp a.eval o).run cf.P w = .ok (.value (.tuple #[.nilIface, .bool false])) w := by simp [execOp, hop, hev, hm]
        rw [this, Oper.upon_value]
        refine hk _ _ c _ w h (hi.putD (.tup _ [.nilIface, .bool false] rfl fun i x v g1 g2 => ?_) hd)
        match i with
        | 0 => simp only [List.getElem?_cons_zero, Option.some.injEq] at g1 g2; subst g1 g2; exact .nili
        | 1 => simp only [List.getElem?_cons_succ, List.getElem?_cons_zero, Option.some.injEq] at g1 g2; subst g1 g2; exact .bool _
        | i + 2 => simp at g1
    · exact h.elim
  · rename_i args ats hop
    split at h
    · rename_i x y t t2 d ha1 ha2 hdst
      simp only [hdst] at hk
      split at h
      · rename_i p v n b hd1 hap
        obtain ⟨h1, h2⟩ := h
        obtain ⟨h2, hd⟩ := fin_spec h2
        rw [blkK_eq] at h2
        have hd1 : d < 1000 := by
          rcases Nat.lt_or_ge d 1000 with h | h
          · exact h
          · rw [Nat.ble_eq_true_of_le h] at hd1; cases hd1
        rw [← show c.mem = mem from hi.mem] at hap
        obtain ⟨u, w', c', e1, e2, e3⟩ := appendR_sound (P := cf.P) (tt := o.type) hty hi.sim hd1 (hopr x (by rw [hop]; simp [Op.operands, Call.operands, ← Array.mem_toList_iff, ha1])) (hopr y (by rw [hop]; simp [Op.operands, Call.operands, ← Array.mem_toList_iff, ha1])) hap h1
        obtain ⟨cs, hrun⟩ := run_builtin (P := cf.P) (w := w) (e := a.eval) hop
        have hA : args = #[x, y] := by rw [← Array.toArray_toList (xs := args), ha1]
        have hT : ats = #[t, t2] := by rw [← Array.toArray_toList (xs := ats), ha2]
        have : (execOp a.eval o).run cf.P w = .ok (.value u) w' := by
          rw [hrun, hA, hT]
          simp only [builtin, Sem.run_bind]
          simp [e1]
        rw [this]
        refine hk _ _ c' _ w' h2 ?_
        have := (hi.go e2.ext e2.mono e2.sim e2.was).putD (dst := some d) e3 hd
        rw [hdst]
        rw [e2.mem, hi.mem] at this
        exact this
      · exact h.elim
    · exact h.elim
  · split at h
    · rename_i hdst
      simp only [hdst] at hk
      obtain ⟨v, h1, h2⟩ := Res.of_vc h
      obtain ⟨u, e1, e2⟩ := evQ_sound (P := cf.P) hty (e := a.eval) (o := o) hopr (fun n b hb => by rw [hi.mem]; exact hb) hi.sim h1
      rw [e1, Oper.upon_value, hdst]
      exact hk v _ c _ w h2 hi
    · rename_i d hdst
      simp only [hdst] at hk
      split at h
      · rename_i p v N hA
        obtain ⟨h1, h2⟩ := (show p ∧ _ from by
          split at hA
          · cases hA
          · exact obK_spec hA h)
        rw [litK_eq] at h2
        obtain ⟨h2, hd⟩ := fin_spec h2
        split at hA
        · cases hA
        · rename_i hd1
          have hd1 : d < 1000 := by
            rcases Nat.lt_or_ge d 1000 with h | h
            · exact h
            · rw [Nat.ble_eq_true_of_le h] at hd1; cases hd1
          obtain ⟨u, w', c', e1, e2, e3⟩ := evA_sound (P := cf.P) hty (e := a.eval) (o := o) hopr (by rw [hi.mem]) hi.sim hA h1
          rw [e1, Oper.upon_value, hdst]
          have hm := e2.mem
          cases N with
          | none =>
            simp only [Option.map_none] at hm
            have hwas : ∀ n, 1000 ≤ n → c'.mem n ≠ none → c.mem n ≠ none := fun n hn hne => by rw [hm] at hne; exact hne
            have := (hi.go e2.ext e2.mono e2.sim hwas).putD (dst := some d) e3 hd
            rw [hm, hi.mem] at this
            exact hk _ _ c' _ w' h2 this
          | some b =>
            simp only [Option.map_some] at hm
            have hwas : ∀ n, 1000 ≤ n → c'.mem n ≠ none → c.mem n ≠ none := fun n hn hne => by
              rw [hm, mupd_other _ _ (show n ≠ d from fun e => absurd hn (Nat.not_le.2 (e ▸ hd1)))] at hne; exact hne
            have := (hi.go e2.ext e2.mono e2.sim hwas).putD (dst := some d) e3 hd
            rw [hm, hi.mem] at this
            simp only [memK, blkK_eq, rowK_eq] at h2
            exact hk _ _ c' _ w' h2 this
      · obtain ⟨v, h1, h2⟩ := Res.of_vc h
        rw [layK_eq] at h2
        obtain ⟨h2, hd⟩ := fin_spec h2
        obtain ⟨u, e1, e2⟩ := evQ_sound (P := cf.P) hty (e := a.eval) (o := o) hopr (fun n b hb => by rw [hi.mem]; exact hb) hi.sim h1
        rw [e1, Oper.upon_value, hdst]
        exact hk _ _ c _ w h2 (hi.putD e2 hd)



/-- One operation, where only what it looks at is known. -/
theorem vcOps_one {cf : Cfg} (hty : ∀ t, TyOk cf.P t (cf.ty t)) {c0 c : Cx} {w0 w : World} {ops : Array Oper} {Q' : Exit → Act → World → Prop} {K : Env → Mem → Prop} {o : Oper} {env envA : Env} {mem : Mem} {a : Act} {K' : Act → World → Prop}
    (h : vcOps cf ops [o] env mem K) (hi : Inv cf.G cf.N c0 w0 ⟨envA, mem⟩ c a w) (he : ∀ t ∈ opTmps ops o, env t = envA t)
    (hk : ∀ v mem' c' a' w', K (put env o.dst v) mem' → Inv cf.G cf.N c0 w0 ⟨put envA o.dst v, mem'⟩ c' a' w' → K' a' w') :
    if Region.wanted o (yielded ops a.tmps) then o.wp cf.P a w K' Q' ∨ (o.asks cf.P a w ∧ LetsOut Q') else K' (a.put o.dst undef) w := by
  unfold vcOps at h
  simp only [vcOps] at h
  have hg := guard_at (ops := ops) (o := o) hi
  simp only at hg
  rw [guardV_congr (env := envA) (env' := env) fun t ht => (he t ht).symm] at hg
  have hx := evO_congr he
  have hopr : ∀ x ∈ o.op.operands, R c (evO env x) (a.eval x) := fun x hxo => by rw [hx x hxo]; exact R_evO hi x
  have skip : fin cf o.dst env (.lit undef) (fun env => K env mem) → K' (a.put o.dst undef) w := fun h => by
    obtain ⟨h1, h2⟩ := fin_spec h
    exact hk _ _ _ _ _ h1 (hi.putD (.lit undef) h2)
  have want : vcOp cf o env mem (fun env mem => K env mem) → o.wp cf.P a w K' Q' := fun h =>
    vcOp_soundG hty h hi hopr fun v mem' c' a' w' g1 g2 => hk _ _ _ _ _ g1 g2
  split at h
  · rename_i hgv
    rw [hgv] at hg
    simp only [hg, if_true]
    exact .inl (want h)
  · rename_i hgv
    rw [hgv] at hg
    simp only [hg, Bool.false_eq_true, if_false]
    exact skip h
  · rename_i t b wn hgv
    have hev := guardV_env hgv
    rw [hgv] at hg
    obtain ⟨_, h2⟩ := hg
    split at h
    · rw [upd_same hev] at h
      split at h
      · simp only [h2, BEq.rfl, if_true]
        exact .inl (want h)
      · have : (true == false) = false := rfl
        simp only [h2, this, Bool.false_eq_true, if_false]
        exact skip h
    · rw [upd_same hev] at h
      split at h
      · simp only [h2, BEq.rfl, if_true]
        exact .inl (want h)
      · have : (false == true) = false := rfl
        simp only [h2, this, Bool.false_eq_true, if_false]
        exact skip h
  · exact h.elim

def opAt (ops : Array Oper) (i : Nat) : Oper := (ops.toList[i]?).getD default
theorem opAt_eq {ops : Array Oper} {i : Nat} {o : Oper} (h : ops[i]? = some o) : opAt ops i = o := by
  unfold opAt
  have : ops.toList[i]? = some o := by simpa using h
  rw [this]; rfl
theorem opAt_some {ops : Array Oper} {i : Nat} (h : i < ops.size) : ops[i]? = some (opAt ops i) := by
  have e : ops[i]? = some ops[i] := by simp [h]
  rw [opAt_eq e]; exact e
def isNewOp : Op → Bool
  | .alloc _ => true
  | .box _ _ => true
  | .buildSlice _ _ _ => true
  | .makeSlice _ _ _ => true
  | .convert _ _ _ => true
  | _ => false
def chainT (ops : Array Oper) : List Nat → Bool
  | i :: j :: r => reach ops 6 (opAt ops j) i && chainT ops (j :: r)
  | _ => true
theorem chainT_tail {ops : Array Oper} {i : Nat} {r : List Nat} (h : chainT ops (i :: r) = true) : chainT ops r = true := by
  cases r with
  | nil => rfl
  | cons j r => simp only [chainT, Bool.and_eq_true] at h; exact h.2
theorem chainT_pred {ops : Array Oper} : ∀ {i : Nat} {r : List Nat}, chainT ops (i :: r) = true → ∀ j ∈ r, ∃ k ∈ i :: r, reach ops 6 (opAt ops j) k = true
  | i, [], _, j, hj => by cases hj
  | i, j0 :: r, h, j, hj => by
    have h' := h
    simp only [chainT, Bool.and_eq_true] at h
    rcases List.mem_cons.1 hj with rfl | hj
    · exact ⟨i, by simp, h.1⟩
    · obtain ⟨k, hk, e⟩ := chainT_pred h.2 j hj
      exact ⟨k, by simp at hk ⊢; exact .inr hk, e⟩

/-- Which operations are quiet (QL), which come one behind the other (TL), which names' blocks stay (keep). -/
def draw3B (QL TL keep : List Nat) (ops : Array Oper) : Bool :=
  (List.range ops.toList.length).all (fun i => QL.contains i || TL.contains i) &&
  (QL ++ TL).all (fun i => Nat.blt i ops.toList.length) &&
  QL.all (fun i => !TL.contains i) &&
  (List.range ops.toList.length).all (fun i => (waits (opAt ops i)).all fun j => Nat.blt j i) &&
  QL.all (fun i => (opAt ops i).dst.isSome) &&
  QL.all (fun i => (List.range ops.toList.length).all fun j => Nat.beq j i || !((opAt ops j).dst == (opAt ops i).dst)) &&
  QL.all (fun i => (opTmps ops (opAt ops i)).all fun t => (List.range ops.toList.length).all fun j => !((opAt ops j).dst == some t) || (QL.contains j && (waits (opAt ops i)).contains j)) &&
  decide (QL.Pairwise (· < ·)) &&
  QL.all (fun i => !isNewOp (opAt ops i).op || (match (opAt ops i).dst with | some d => keep.contains d | none => true)) &&
  TL.all (fun i => (opTmps ops (opAt ops i)).all fun t => QL.all fun j => !((opAt ops j).dst == some t) || reach ops 6 (opAt ops i) j) &&
  chainT ops TL && decide (TL.Nodup)
structure Draw3 (QL TL keep : List Nat) (ops : Array Oper) : Prop where
  all : ∀ i, i < ops.size → i ∈ QL ∨ i ∈ TL
  lt : ∀ i, i ∈ QL ∨ i ∈ TL → i < ops.size
  apart : ∀ i ∈ QL, i ∉ TL
  back : ∀ i, i < ops.size → ∀ j ∈ waits (opAt ops i), j < i
  qdst : ∀ i ∈ QL, ∃ d, (opAt ops i).dst = some d
  qone : ∀ i ∈ QL, ∀ j, j < ops.size → j ≠ i → (opAt ops j).dst ≠ (opAt ops i).dst
  qdep : ∀ i ∈ QL, ∀ t ∈ opTmps ops (opAt ops i), ∀ j, j < ops.size → (opAt ops j).dst = some t → j ∈ QL ∧ j ∈ waits (opAt ops i)
  qord : QL.Pairwise (· < ·)
  qnew : ∀ i ∈ QL, isNewOp (opAt ops i).op = true → ∀ d, (opAt ops i).dst = some d → d ∈ keep
  tdep : ∀ i ∈ TL, ∀ t ∈ opTmps ops (opAt ops i), ∀ j ∈ QL, (opAt ops j).dst = some t → reach ops 6 (opAt ops i) j = true
  chain : chainT ops TL = true
  tnodup : TL.Nodup
theorem draw3B_spec {QL TL keep : List Nat} {ops : Array Oper} (h : draw3B QL TL keep ops = true) : Draw3 QL TL keep ops := by
  unfold draw3B at h
  simp only [Bool.and_eq_true, List.all_eq_true, decide_eq_true_eq] at h
  obtain ⟨⟨⟨⟨⟨⟨⟨⟨⟨⟨⟨h1, h2⟩, h3⟩, h4⟩, h5⟩, h6⟩, h7⟩, h8⟩, h9⟩, h10⟩, h11⟩, h12⟩ := h
  have hlen : ops.toList.length = ops.size := by simp
  rw [hlen] at h1 h2 h4 h6 h7
  refine ⟨fun i hi => ?_, fun i hi => ?_, fun i hi => ?_, fun i hi j hj => ?_, fun i hi => ?_, fun i hi j hj hne e => ?_, fun i hi t ht j hj e => ?_, h8, fun i hi hn d hd => ?_, fun i hi t ht j hj e => ?_, h11, h12⟩
  · have := h1 i (List.mem_range.2 hi); simpa using this
  · have := h2 i (by simpa using hi)
    rw [Nat.blt_eq] at this; exact this
  · have := h3 i hi; simpa using this
  · have := h4 i (List.mem_range.2 hi) j hj
    rw [Nat.blt_eq] at this; exact this
  · exact Option.isSome_iff_exists.1 (h5 i hi)
  · have := h6 i hi j (List.mem_range.2 hj)
    rw [Bool.or_eq_true] at this
    rcases this with h | h
    · exact hne (Nat.eq_of_beq_eq_true h)
    · simp [e] at h
  · have := h7 i hi t ht j (List.mem_range.2 hj)
    rw [Bool.or_eq_true] at this
    rcases this with h | h
    · simp [e] at h
    · simpa using h
  · have := h9 i hi
    rw [hn, hd] at this
    simpa using this
  · have := h10 i hi t ht j hj
    rw [Bool.or_eq_true] at this
    rcases this with h | h
    · simp [e] at h
    · exact h

def sameAt (m m' : Mem) : List Nat → Prop
  | [] => True
  | n :: ns => m' n = m n ∧ sameAt m m' ns
theorem sameAt.at_ {m m' : Mem} : ∀ {ns : List Nat}, sameAt m m' ns → ∀ n ∈ ns, m' n = m n
  | [], _, n, hn => by cases hn
  | k :: ns, h, n, hn => by
    rcases List.mem_cons.1 hn with rfl | hn
    · exact h.1
    · exact sameAt.at_ h.2 n hn
def memKeep (keep : List Nat) (m : Mem) : Mem := fun n => match keep.any (Nat.beq n) with | true => m n | false => none
theorem memKeep_in {keep : List Nat} {m : Mem} {n : Nat} (h : n ∈ keep) : memKeep keep m n = m n := by
  unfold memKeep
  have : keep.any (Nat.beq n) = true := List.any_eq_true.2 ⟨n, h, Nat.beq_refl n⟩
  rw [this]
theorem memKeep_some {keep : List Nat} {m : Mem} {n : Nat} {b : Blk} (h : memKeep keep m n = some b) : n ∈ keep ∧ m n = some b := by
  unfold memKeep at h
  split at h
  · rename_i hk
    obtain ⟨k, hk1, hk2⟩ := List.any_eq_true.1 hk
    rw [Nat.eq_of_beq_eq_true hk2]
    refine ⟨hk1, ?_⟩
    rw [Nat.eq_of_beq_eq_true hk2] at h; exact h
  · cases h
/-- The operations that come one behind the other. -/
noncomputable def vcTR (cf : Cfg) (ops : Array Oper) (keep : List Nat) (mem0 : Mem) (ts : List Nat) : Env → Mem → (Env → Mem → Prop) → Prop :=
  List.rec (motive := fun _ => Env → Mem → (Env → Mem → Prop) → Prop) (fun env mem K => K env mem) (fun i _ ih env mem K => vcOpsR cf ops [opAt ops i] env mem fun env mem => sameAt mem0 mem keep ∧ ih env mem K) ts
def vcT (cf : Cfg) (ops : Array Oper) (keep : List Nat) (mem0 : Mem) : List Nat → Env → Mem → (Env → Mem → Prop) → Prop
  | [], env, mem, K => K env mem
  | i :: rest, env, mem, K => vcOps cf ops [opAt ops i] env mem fun env mem => sameAt mem0 mem keep ∧ vcT cf ops keep mem0 rest env mem K
theorem vcTR_eq (cf : Cfg) (ops : Array Oper) (keep : List Nat) (mem0 : Mem) : ∀ ts, vcTR cf ops keep mem0 ts = vcT cf ops keep mem0 ts
  | [] => rfl
  | i :: rest => by
    funext env mem K
    unfold vcT
    rw [← vcTR_eq cf ops keep mem0 rest, ← vcOpsR_eq]
    rfl

def Unl3 (ops : Array Oper) (QL : List Nat) (A : Array Bool) (t : Nat) : Prop := ∃ i ∈ QL, A.getD i true = false ∧ (opAt ops i).dst = some t
open Classical in
noncomputable def envL3 (ops : Array Oper) (QL : List Nat) (A : Array Bool) (e0 e : Env) : Env := fun t => if Unl3 ops QL A t then e0 t else e t

theorem getD_flip {A : Array Bool} {i : Nat} (hi : i < A.size) (x y : Bool) : A.getD i x = A.getD i y := by simp [Array.getD, hi]

/-- **A region that draws its order**: quiet operations anywhere (their values hang on what stays), the rest one behind the other. -/
theorem DrawOK.intro3 {cf : Cfg} (hty : ∀ t, TyOk cf.P t (cf.ty t)) (hm : cf.P.follows .mixedOrders = true) {id : Nat} {ops : Array Oper} {env : Env} {mem : Mem} {Q : Exit → Env → Mem → Prop} (QL TL keep : List Nat) (hb : draw3B QL TL keep ops = true)
    (h : vcQR cf ops (memKeep keep mem) (QL.map (opAt ops)) env (memKeep keep mem) fun eF m => m = memKeep keep mem ∧ vcTR cf ops keep mem TL eF mem fun env m => Q .normal env m) : DrawOK cf id ops env mem Q := by
  simp only [vcQR_eq, vcTR_eq] at h
  have D := draw3B_spec hb
  obtain ⟨eF, mF, hrun, hmF, htail⟩ := vcQ_sound _ _ _ h
  have hat : ∀ (p : Nat) (o : Oper), (QL.map (opAt ops))[p]? = some o → ∃ i, QL[p]? = some i ∧ opAt ops i = o := fun p o hp => by
    rw [List.getElem?_map] at hp
    obtain ⟨i, h1, h2⟩ := Option.map_eq_some_iff.1 hp
    exact ⟨i, h1, h2⟩
  have hltp : ∀ (p p' i i' : Nat), QL[p]? = some i → QL[p']? = some i' → p < p' → i < i' := fun p p' i i' h1 h2 hlt => by
    obtain ⟨l1, e1⟩ := List.getElem?_eq_some_iff.1 h1
    obtain ⟨l2, e2⟩ := List.getElem?_eq_some_iff.1 h2
    have := List.pairwise_iff_getElem.1 D.qord p p' l1 l2 hlt
    rw [e1, e2] at this; exact this
  have hdist : ∀ (p p' : Nat) (o o' : Oper), (QL.map (opAt ops))[p]? = some o → (QL.map (opAt ops))[p']? = some o' → p ≠ p' → o'.dst ≠ o.dst := fun p p' o o' h1 h2 hne => by
    obtain ⟨i, a1, rfl⟩ := hat p o h1
    obtain ⟨i', b1, rfl⟩ := hat p' o' h2
    have hne' : i' ≠ i := by
      rcases Nat.lt_or_gt_of_ne hne with h | h
      · have := hltp p p' i i' a1 b1 h; omega
      · have := hltp p' p i' i b1 a1 h; omega
    exact D.qone i (mem_of_at a1) i' (D.lt i' (.inl (mem_of_at b1))) hne'
  obtain ⟨f1, f2, f3⟩ := hrun.facts hdist
  -- of each quiet operation
  have fq : ∀ i ∈ QL, ∃ d envi, (opAt ops i).dst = some d ∧ d < cf.N ∧ QStep cf ops (memKeep keep mem) (opAt ops i) d envi (eF d) none ∧ ∀ t ∈ opTmps ops (opAt ops i), envi t = eF t := fun i hi => by
    obtain ⟨p, hp⟩ := List.getElem?_of_mem hi
    obtain ⟨d, envi, N, k1, k2, k3, k4, k5⟩ := f3 p (opAt ops i) (by rw [List.getElem?_map, hp]; rfl)
    have hN : N = none := by
      cases N with
      | none => rfl
      | some b =>
        exfalso
        simp only at k5
        rw [hmF] at k5
        have nv : ∀ {v : V}, QVal cf (memKeep keep mem) (opAt ops i) d envi v (some b) → False := fun h => by
          cases h with
          | new p v N hA hp hmn hd1 => rw [hmn] at k5; cases k5
        generalize eF d = v at k3
        cases k3 with
        | want v N h k => exact nv k
        | yes t b w v N h hb k => exact nv k
    subst hN
    refine ⟨d, envi, k1, k2, k3, fun t ht => k4 t fun p' o' hpp ho' hdj => ?_⟩
    obtain ⟨j, b1, rfl⟩ := hat p' o' ho'
    have hj := D.lt j (.inl (mem_of_at b1))
    have hw := (D.qdep i hi t ht j hj hdj).2
    have := D.back i (D.lt i (.inl hi)) j hw
    rcases Nat.lt_or_eq_of_le hpp with h | h
    · have := hltp p p' i j hp b1 h; omega
    · subst h; rw [hp] at b1; injection b1 with b1; omega
  refine ⟨fun c0 w0 c a w hi Q' hQ => wp_region_any hm ?_⟩
  have key : ∀ (u : Nat) (ts : List Nat) (A : Array Bool) (ek : Env) (mk : Mem) (c : Cx) (a : Act) (w : World), cntU A ops.size = u → (∀ k o, ops[k]? = some o → A.getD k false = true → ∀ j ∈ waits o, A.getD j false = true) → A.size = ops.size →
      (∀ i, i < ops.size → i ∉ QL → (A.getD i true = false ↔ i ∈ ts)) → (∀ i ∈ ts, i ∈ TL) → chainT ops ts = true → ts.Nodup → (∀ t, (∀ i ∈ TL, (opAt ops i).dst ≠ some t) → ek t = eF t) → sameAt mem mk keep →
      vcT cf ops keep mem ts ek mk (fun env m => Q .normal env m) → Inv cf.G cf.N c0 w0 ⟨envL3 ops QL A env ek, mk⟩ c a w → wpAny cf.P .any ops Q' u A a w := by
    intro u
    induction u with
    | zero =>
      intro ts A ek mk c a w hu _ hA hT hts _ _ _ _ hv hi
      have hall := cntU_zero ops.size hu
      have hnil : Region.ready .any ops A = [] := by
        rw [List.eq_nil_iff_forall_not_mem]
        intro i hir
        obtain ⟨o, e1, e2, _⟩ := mem_ready.1 hir
        have hlt := (Array.getElem?_eq_some_iff.1 e1).1
        rw [hall i hlt] at e2; cases e2
      refine ⟨hnil, ?_⟩
      have hno : ∀ t, ¬ Unl3 ops QL A t := fun t ⟨i, h3, h4, _⟩ => by rw [hall i (D.lt i (.inl h3))] at h4; cases h4
      have he : envL3 ops QL A env ek = ek := by funext t; simp [envL3, hno t]
      rw [he] at hi
      cases ts with
      | nil => exact hQ _ _ _ _ _ _ hi hv
      | cons i r =>
        have hil := D.lt i (.inr (hts i (by simp)))
        have hiq : i ∉ QL := fun h => D.apart i h (hts i (by simp))
        have := (hT i hil hiq).2 (by simp)
        rw [hall i hil] at this; cases this
    | succ u ih =>
      intro ts A ek mk c a w hu hcl hA hT hts hch hnd hE hK hv hi
      obtain ⟨i0, p1, p2, p3⟩ := cntU_pos (A := A) ops.size (by omega)
      have hr0 : i0 ∈ Region.ready .any ops A := mem_ready.2 ⟨opAt ops i0, opAt_some p1, p2, fun j hj => by
        have hlt := D.back i0 p1 j hj
        have := p3 j hlt
        rw [getD_flip (by omega) false true]; exact this⟩
      refine ⟨fun e => (by rw [e] at hr0; cases hr0), fun i hir => ?_⟩
      obtain ⟨o, e1, e2, e3⟩ := mem_ready.1 hir
      have hilt := (Array.getElem?_eq_some_iff.1 e1).1
      obtain rfl := opAt_eq e1
      have hcnt : cntU (A.setIfInBounds i true) ops.size = u := by
        have := cntU_set (A := A) (i := i) (by omega) e2 ops.size
        rw [if_pos hilt] at this
        omega
      have hcl' : ∀ k o, ops[k]? = some o → (A.setIfInBounds i true).getD k false = true → ∀ j ∈ waits o, (A.setIfInBounds i true).getD j false = true := fun k' o' hk' hl j hj => by
        rw [getD_set (by omega)] at hl ⊢
        split
        · rfl
        · split at hl
          · rename_i hki
            subst hki
            rw [e1] at hk'; injection hk' with hk'; subst hk'
            exact e3 j hj
          · exact hcl k' o' hk' hl j hj
      have done : ∀ j, j < ops.size → A.getD j true = false → ¬ (j ∈ waits (opAt ops i)) := fun j hj h4 h => by
        have h7 := e3 j h
        rw [getD_flip (by omega) false true, h4] at h7; cases h7
      have hex : ∀ t ∈ opTmps ops (opAt ops i), Unl3 ops QL A t → False := fun t ht ⟨j, hj, h4, h5⟩ => by
        have hjl := D.lt j (.inl hj)
        by_cases hiq : i ∈ QL
        · exact done j hjl h4 (D.qdep i hiq t ht j hjl h5).2
        · have hit : i ∈ TL := (D.all i hilt).resolve_left hiq
          have h7 : A.getD j false = true := reach_listed (L := fun j => A.getD j false = true) hcl 6 _ j e3 (D.tdep i hit t ht j hj h5)
          rw [getD_flip (by omega) false true, h4] at h7; cases h7
      unfold wpOp
      rw [e1]
      simp only
      by_cases hiq : i ∈ QL
      · obtain ⟨d, envi, k1, k2, k3, k4⟩ := fq i hiq
        have hUd : Unl3 ops QL A d := ⟨i, hiq, e2, k1⟩
        have hset : ∀ t, Unl3 ops QL (A.setIfInBounds i true) t ↔ Unl3 ops QL A t ∧ t ≠ d := fun t => by
          constructor
          · rintro ⟨j, h3, h4, h6⟩
            rw [getD_set (by omega)] at h4
            split at h4
            · cases h4
            · rename_i hji
              exact ⟨⟨j, h3, h4, h6⟩, fun e => D.qone i hiq j (D.lt j (.inl h3)) hji (by rw [h6, k1, e])⟩
          · rintro ⟨⟨j, h3, h4, h6⟩, hne⟩
            refine ⟨j, h3, ?_, h6⟩
            rw [getD_set (by omega), if_neg]
            · exact h4
            · rintro rfl
              rw [k1] at h6; injection h6 with h6
              exact hne h6.symm
        have hekd : ek d = eF d := hE d fun j hj hdj => by
          have hjl := D.lt j (.inr hj)
          have : j ≠ i := fun e => D.apart i hiq (e ▸ hj)
          exact D.qone i hiq j hjl this (by rw [hdj, k1])
        have htm : ∀ t ∈ opTmps ops (opAt ops i), envL3 ops QL A env ek t = envi t := fun t ht => by
          have hnU : ¬ Unl3 ops QL A t := fun h => hex t ht h
          rw [k4 t ht]
          have : ek t = eF t := hE t fun j hj hdj => by
            have := (D.qdep i hiq t ht j (D.lt j (.inr hj)) hdj).1
            exact D.apart j this hj
          simp [envL3, hnU, this]
        have henv : ∀ v, eF d = v → upd (envL3 ops QL A env ek) d v = envL3 ops QL (A.setIfInBounds i true) env ek := fun v hv' => by
          funext t
          unfold upd
          cases hbt : Nat.beq t d with
          | true =>
            have := Nat.eq_of_beq_eq_true hbt
            subst this
            have : ¬ Unl3 ops QL (A.setIfInBounds i true) t := fun h => ((hset t).1 h).2 rfl
            simp [envL3, this, hekd, hv']
          | false =>
            have hne : t ≠ d := by rintro rfl; rw [Nat.beq_refl] at hbt; cases hbt
            by_cases hU : Unl3 ops QL A t
            · simp [envL3, hU, (hset t).2 ⟨hU, hne⟩]
            · have : ¬ Unl3 ops QL (A.setIfInBounds i true) t := fun h => hU ((hset t).1 h).1
              simp [envL3, hU, this]
        have hnext : ∀ (v : V) (c' : Cx) (a' : Act) (w' : World), eF d = v → Inv cf.G cf.N c0 w0 ⟨upd (envL3 ops QL A env ek) d v, mk⟩ c' a' w' → wpAny cf.P .any ops Q' u (A.setIfInBounds i true) a' w' := fun v c' a' w' hv' hi' => by
          rw [henv v hv'] at hi'
          refine ih ts _ ek mk c' a' w' hcnt hcl' (by simpa using hA) (fun j hj hjq => ?_) hts hch hnd hE hK hv hi'
          have hji : j ≠ i := fun e => by subst e; exact hjq hiq
          rw [getD_set (by omega), if_neg hji]
          exact hT j hj hjq
        have hsub : ∀ n b, memKeep keep mem n = some b → mk n = some b := fun n b hn => by
          obtain ⟨h1, h2⟩ := memKeep_some hn
          rw [hK.at_ n h1]; exact h2
        have hg := guard_at (ops := ops) (o := opAt ops i) hi
        simp only at hg
        rw [guardV_congr htm] at hg
        have hx := evO_congr htm
        have runv : ∀ {v : V}, eF d = v → QVal cf (memKeep keep mem) (opAt ops i) d envi v none → (opAt ops i).wp cf.P a w (wpAny cf.P .any ops Q' u (A.setIfInBounds i true)) Q' := fun {v} hv' hq => by
          have hmd : mk d = memKeep keep mem d ∨ isNewOp (opAt ops i).op = false := by
            cases hn : isNewOp (opAt ops i).op with
            | false => exact .inr rfl
            | true =>
              have hk := D.qnew i hiq hn d k1
              exact .inl (by rw [memKeep_in hk]; exact hK.at_ d hk)
          rcases hmd with hmd | hnn
          · exact hq.run hty hi hx hsub hmd k1 k2 fun c' a' w' hi' => hnext v c' a' w' hv' hi'
          · -- no new block: what is there under its name says nothing
            cases hq with
            | new p v N hA hp hmn hd1 =>
              exfalso
              revert hA hnn
              cases (opAt ops i).op <;> intro hnn hA <;> first
                | (simp [isNewOp] at hnn; done)
                | (simp [evA] at hA; done)
            | pick c x y t h hc => exact (QVal.pick (cf := cf) (mem := mk) c x y t h hc).run hty hi hx (fun _ _ h => h) rfl k1 k2 fun c' a' w' hi' => hnext _ c' a' w' hv' hi'
            | call x args tys f caps r h hx' hr => exact (QVal.call (cf := cf) (mem := mk) x args tys f caps _ h hx' (fun m hm => hr m fun n b hn => hm n b (hsub n b hn))).run hty hi hx (fun _ _ h => h) rfl k1 k2 fun c' a' w' hi' => hnext _ c' a' w' hv' hi'
            | quiet v hq =>
              have hq2 : QVal cf (memKeep keep mem) (opAt ops i) d envi v none := .quiet v hq
              obtain ⟨u', g1, g2⟩ := evQ_sound (P := cf.P) hty (e := a.eval) (o := opAt ops i) (fun x hxo => by rw [← hx x hxo]; exact R_evO hi x) (fun n b hb => by rw [hi.mem]; exact hsub n b hb) hi.sim hq
              unfold Oper.wp
              rw [g1, Oper.upon_value, k1]
              have := hi.putD (dst := some d) g2 (fun t e => by cases e; exact k2)
              exact hnext v c _ w hv' this
        have skipv : eF d = .lit undef → wpAny cf.P .any ops Q' u (A.setIfInBounds i true) (a.put (opAt ops i).dst undef) w := fun hv' => by
          have := hi.putD (dst := (opAt ops i).dst) (.lit undef) (fun t e => by rw [k1] at e; cases e; exact k2)
          rw [k1] at this ⊢
          exact hnext (.lit undef) c _ w hv' this
        generalize hv' : eF d = v at k3
        cases k3 with
        | want v N hgv k =>
          rw [hgv] at hg
          simp only [hg, if_true]
          exact .inl (runv hv' k)
        | yes t b w v N hgv hbw k =>
          rw [hgv] at hg
          subst hbw
          simp only [hg.2, BEq.rfl, if_true]
          exact .inl (runv hv' k)
        | no t b w hgv hbw =>
          rw [hgv] at hg
          have : (b == w) = false := by simpa using hbw
          simp only [hg.2, this, Bool.false_eq_true, if_false]
          exact skipv hv'
        | skip hgv =>
          rw [hgv] at hg
          simp only [hg, Bool.false_eq_true, if_false]
          exact skipv hv'
      · have hit : i ∈ TL := (D.all i hilt).resolve_left hiq
        have hits : i ∈ ts := (hT i hilt hiq).1 e2
        cases ts with
        | nil => cases hits
        | cons i' r =>
          have hii : i = i' := by
            rcases List.mem_cons.1 hits with h | h
            · exact h
            · exfalso
              obtain ⟨k, hk, hr⟩ := chainT_pred hch i h
              have hkl := D.lt k (.inr (hts k hk))
              have hkq : k ∉ QL := fun h => D.apart k h (hts k hk)
              have h6 := (hT k hkl hkq).2 hk
              have h7 : A.getD k false = true := reach_listed (L := fun j => A.getD j false = true) hcl 6 _ k e3 hr
              rw [getD_flip (by omega) false true, h6] at h7; cases h7
          subst hii
          unfold vcT at hv
          refine vcOps_one hty hv hi (fun t ht => ?_) fun v mem' c' a' w' ⟨hs, hv2⟩ hi' => ?_
          · have hnU : ¬ Unl3 ops QL A t := fun h => hex t ht h
            simp [envL3, hnU]
          · have hUs : ∀ t, Unl3 ops QL (A.setIfInBounds i true) t ↔ Unl3 ops QL A t := fun t => by
              have hg : ∀ j ∈ QL, (A.setIfInBounds i true).getD j true = A.getD j true := fun j hj => by
                have hji : j ≠ i := fun e => by subst e; exact hiq hj
                rw [getD_set (by omega), if_neg hji]
              constructor
              · rintro ⟨j, h3, h4, h5⟩; exact ⟨j, h3, by rw [← hg j h3]; exact h4, h5⟩
              · rintro ⟨j, h3, h4, h5⟩; exact ⟨j, h3, by rw [hg j h3]; exact h4, h5⟩
            have henv : put (envL3 ops QL A env ek) (opAt ops i).dst v = envL3 ops QL (A.setIfInBounds i true) env (put ek (opAt ops i).dst v) := by
              cases hd : (opAt ops i).dst with
              | none =>
                funext t
                simp only [put, envL3]
                by_cases hU : Unl3 ops QL A t
                · rw [if_pos hU, if_pos ((hUs t).2 hU)]
                · rw [if_neg hU, if_neg (fun h => hU ((hUs t).1 h))]
              | some d =>
                have hnd' : ¬ Unl3 ops QL A d := fun ⟨j, h3, _, h5⟩ => D.qone j h3 i hilt (fun e => hiq (e ▸ h3)) (by rw [hd, h5])
                funext t
                simp only [put, upd]
                cases hbt : Nat.beq t d with
                | true =>
                  have := Nat.eq_of_beq_eq_true hbt
                  subst this
                  simp [envL3, hUs, hnd', upd]
                | false =>
                  simp only [envL3]
                  by_cases hU : Unl3 ops QL A t
                  · rw [if_pos hU, if_pos ((hUs t).2 hU)] <;> simp
                  · rw [if_neg hU, if_neg (fun h => hU ((hUs t).1 h))] <;> simp [upd, hbt]
            rw [henv] at hi'
            refine ih r _ _ mem' c' a' w' hcnt hcl' (by simpa using hA) (fun j hj hjq => ?_) (fun j hj => hts j (by simp [hj])) (chainT_tail hch) (List.nodup_cons.1 hnd).2 (fun t ht => ?_) hs hv2 hi'
            · rw [getD_set (by omega)]
              split
              · rename_i hji
                subst hji
                constructor
                · intro h; cases h
                · intro h; exact absurd h (List.nodup_cons.1 hnd).1
              · rename_i hji
                rw [hT j hj hjq]
                constructor
                · intro h
                  rcases List.mem_cons.1 h with h | h
                  · exact absurd h hji
                  · exact h
                · intro h; simp [h]
            · have hdt := ht i hit
              rw [← hE t ht]
              cases hd : (opAt ops i).dst with
              | none => rfl
              | some d =>
                have hne : t ≠ d := fun e => hdt (by rw [hd, e])
                simp only [put, upd]
                cases hbt : Nat.beq t d with
                | true => exact absurd (Nat.eq_of_beq_eq_true hbt) hne
                | false => rfl
  have hrep : ∀ i, i < ops.size → (Array.replicate ops.size false).getD i true = false := fun i hi => by simp [Array.getD, hi]
  have hcnt : ∀ q', q' ≤ ops.size → cntU (Array.replicate ops.size false) q' = q' := by
    intro q'
    induction q' with
    | zero => intro _; rfl
    | succ q' ih => intro hq'; unfold cntU; rw [ih (by omega), hrep q' (by omega)]; rfl
  have hi1 : Inv cf.G cf.N c0 w0 ⟨envL3 ops QL (Array.replicate ops.size false) env eF, mem⟩ c a { w with drawn := w.drawn + 1 } := by
    have he : envL3 ops QL (Array.replicate ops.size false) env eF = env := by
      funext t
      by_cases hn : Unl3 ops QL (Array.replicate ops.size false) t
      · simp [envL3, hn]
      · simp only [envL3, hn, if_false]
        refine f1 t fun o ho hd => ?_
        obtain ⟨i, hi, rfl⟩ := List.mem_map.1 ho
        exact hn ⟨i, hi, hrep i (D.lt i (.inl hi)), hd⟩
    rw [he]
    exact hi.drew
  have hsame : ∀ ns : List Nat, sameAt mem mem ns := fun ns => by
    induction ns with
    | nil => trivial
    | cons n ns ih => exact ⟨rfl, ih⟩
  refine key ops.size TL (Array.replicate ops.size false) eF mem c a _ (hcnt _ (Nat.le_refl _)) (fun k o hk hl => by
    have hlt := (Array.getElem?_eq_some_iff.1 hk).1
    simp [Array.getD, hlt] at hl) (by simp) (fun i hi hiq => ?_) (fun _ h => h) D.chain D.tnodup (fun t _ => rfl) (hsame keep) htail hi1
  rw [hrep i hi]
  exact ⟨fun _ => (D.all i hi).resolve_left hiq, fun _ => rfl⟩
end Go.Ab
