/- Structs that come in, field by field. -/
import Derived.Test.YtihnaonainhjgaaDoorAbC
set_option linter.unusedVariables false
set_option linter.unusedSimpArgs false
namespace Go.Ab

/-- Fields of a struct, one behind the other. -/
structure OpensF (P : Program) (fs : List Field) (α : Type) (p : α → Prop) (ls : α → List V) (off sz : Nat) : Prop where
  len : ∀ a, (ls a).length = sz
  rd : ∀ {H : Type} (enc : TypeId × Value → H) (w : World) (base : Nat) (spare : Nat → Bool) (held : Bool) (fuel : Nat) (cs : List Value) (xs : List (DataW H × List MemPlace)), fs.length = xs.length →
    (∀ (i : Nat) (f : Field), fs[i]? = some f → DataW.trod enc P w base spare held fuel f.type ((cs.drop f.offset).take (P.cellsOf f.type)) = xs[i]?) →
    ∃ a, p a ∧ ∀ (j : Nat) (y : V), (ls a)[j]? = some y → ∃ v, cs[off + j]? = some v ∧ R (full w) y v

theorem OpensF.nil {P : Program} {off : Nat} : OpensF P [] Unit (fun _ => True) (fun _ => []) off 0 :=
  ⟨fun _ => rfl, fun _ _ _ _ _ _ _ _ _ _ => ⟨(), trivial, fun j y h => by simp at h⟩⟩
theorem OpensF.cons {P : Program} {f : Field} {fs : List Field} {α β : Type} {p : α → Prop} {q : β → Prop} {ls : α → List V} {ls' : β → List V} {off sz sz' : Nat} (h : Opens P f.type α p ls sz) (ho : f.offset = off) (k : OpensF P fs β q ls' (off + sz) sz') :
    OpensF P (f :: fs) (α × β) (fun x => p x.1 ∧ q x.2) (fun x => ls x.1 ++ ls' x.2) off (sz + sz') :=
  ⟨fun a => by simp [h.len, k.len], fun enc w base spare held fuel cs xs hl hx => by
    cases xs with
    | nil => simp at hl
    | cons x0 xs =>
      have h0 := hx 0 f rfl
      simp only [List.getElem?_cons_zero] at h0
      obtain ⟨a, a1, a2, a3⟩ := h.rd enc w base spare held fuel _ _ h0
      obtain ⟨b, b1, b2⟩ := k.rd enc w base spare held fuel cs xs (by simpa using hl) (fun i g hg => by
        have := hx (i + 1) g (by simpa using hg)
        simpa using this)
      refine ⟨(a, b), ⟨a1, b1⟩, fun j y hj => ?_⟩
      by_cases hlt : j < sz
      · rw [List.getElem?_append_left (by rw [h.len]; exact hlt)] at hj
        obtain ⟨v, v1, v2⟩ := a3 j y hj
        refine ⟨v, ?_, v2⟩
        rw [List.getElem?_take] at v1
        split at v1
        · rw [List.getElem?_drop, ho] at v1; exact v1
        · cases v1
      · rw [List.getElem?_append_right (by rw [h.len]; omega), h.len] at hj
        obtain ⟨v, v1, v2⟩ := b2 (j - sz) y hj
        refine ⟨v, ?_, v2⟩
        rw [← v1]
        congr 1
        omega⟩
theorem Opens.struct {P : Program} {t : TypeId} {fs : Array Field} {α : Type} {p : α → Prop} {ls : α → List V} {sz : Nat} (h : OpensF P fs.toList α p ls 0 sz) (ht : P.underlying t = some (.struct fs)) (hs : P.cellsOf t = sz) : Opens P t α p ls sz :=
  ⟨hs, h.len, fun enc w base spare held fuel cs x hx => by
    obtain ⟨xs, n, _, rfl, hl, hlen, hf⟩ := DataW.trod_struct ht hx
    obtain ⟨a, a1, a2⟩ := h.rd enc w base spare held n cs xs (by simp [hlen]) (fun i f hi => hf i f (by simpa using hi))
    exact ⟨a, a1, by omega, fun j y hj => by simpa using a2 j y hj⟩⟩
/-- A struct's value, as a whole. -/
theorem Opens.agg {P : Program} {t : TypeId} {α : Type} {p : α → Prop} {ls : α → List V} {sz : Nat} (ho : Opens P t α p ls sz) {H : Type} {enc : TypeId × Value → H} {w : World} {cs : Array Value} {d : DataW H} {ps : List MemPlace} {base : Nat} {sp : Nat → Bool} {held : Bool}
    (h : DataW.Trod enc P w base sp held t (.agg cs) d ps) : ∃ a, p a ∧ R (full w) (.agg (ls a)) (.agg cs) := by
  obtain ⟨fuel, hf⟩ := h
  obtain ⟨a, h1, h2, h3⟩ := ho.rd enc w base sp held fuel _ _ hf
  have hc : (Value.agg cs).cells.toList = cs.toList := by simp [Value.cells]
  rw [hc] at h2 h3
  refine ⟨a, h1, ?_⟩
  have := R.agg (c := full w) (ls a) cs.toList (by rw [ho.len, h2]) (fun i x v hx hv => by
    obtain ⟨u, u1, u2⟩ := h3 i x hx
    rw [u1] at hv; injection hv with hv; subst hv; exact u2)
  simpa using this
end Go.Ab
