/- What reads as data at a type is a value of the print's kind of that type: integers, bools, texts, slices, structs; no condition beyond the reading itself. -/
import Derived.Test.YtikfdjgigeggjaaVFnExactKeyValueWords
import Derived.Deep.Slices
import Derived.Lib.SmallJoins
import Derived.ChangeSame
import Derived.ChangeArms
import Derived.OpenShut
namespace Go.Proofs.Ytikfdjgigeggjaa.Opn
open Go.RowKit Go.ChangeShapes Go.WideShapes Go.Deep Go.Proofs.YtikfdjgigeggjaaW.PrintWords
set_option linter.unusedVariables false

/-- What reads at type t is of kind d, and ok. -/
def Opens (P : Program) {α : Type} (t : TypeId) (d : Kd α) (ok : α → Prop) : Prop :=
  ∀ (H : Type) (enc : TypeId × Value → H) (w : World) (base : Nat) (spare : Nat → Bool) (held : Bool) (fuel : Nat) (cs : List Value) (x : DataW H × List MemPlace),
    DataW.trod enc P w base spare held fuel t cs = some x → ∃ a : α, d.K w a cs ∧ ok a

theorem Opens.trod {P : Program} {α : Type} {t : TypeId} {d : Kd α} {ok : α → Prop} (h : Opens P t d ok) {H : Type} {enc : TypeId × Value → H} {w : World} {base : Nat} {spare : Nat → Bool} {held : Bool} {v : Value} {y : DataW H} {ps : List MemPlace}
    (hv : DataW.Trod enc P w base spare held t v y ps) : ∃ a : α, d.K w a v.cells.toList ∧ ok a := by
  obtain ⟨fuel, hf⟩ := hv
  exact h H enc w base spare held fuel _ _ hf

theorem Opens.int {P : Program} {t : TypeId} {k : IntKind} (ht : P.underlying t = some (.int k)) : Opens P t (Kd.int k) (fun n => (Lit.int k n).wf = true) := by
  intro H enc w base spare held fuel cs x h
  obtain ⟨n, rfl, _, hw⟩ := DataW.trod_int ht h
  exact ⟨n, rfl, hw⟩

theorem Opens.bool {P : Program} {t : TypeId} (ht : P.underlying t = some .bool) : Opens P t Kd.bool (fun _ => True) := by
  intro H enc w base spare held fuel cs x h
  obtain ⟨n, rfl, _⟩ := DataW.trod_bool ht h
  exact ⟨n, rfl, trivial⟩

theorem Opens.string {P : Program} {t : TypeId} (ht : P.underlying t = some .string) : Opens P t Kd.string (fun s => s.size ≤ maxLen) := by
  intro H enc w base spare held fuel cs x h
  obtain ⟨n, rfl, _, hl⟩ := DataW.trod_string ht h
  exact ⟨n, rfl, hl⟩

theorem Opens.slice {P : Program} {α : Type} {t e : TypeId} {d : Kd α} {ok : α → Prop} (ht : P.underlying t = some (.slice e)) (hs : P.cellsOf e = d.sz) (h : Opens P e d ok) :
    Opens P t (Kd.slice e d) (fun xs => xs.length ≤ maxLen ∧ ∀ x ∈ xs, ok x) := by
  intro H enc w base spare held fuel cs x hx
  rcases open_slice ht hx with ⟨rfl, _⟩ | ⟨a, len, cap, m, n, D, Pl, rfl, hb, hl, hm, hmm, _, hi⟩
  · exact ⟨[], ⟨none, 0, rfl, Nat.le_refl _, rfl, by simp, fun h => absurd h (Nat.lt_irrefl 0)⟩, by simp, by simp⟩
  · have hlm : len ≤ m := by rw [hmm]; split <;> omega
    have key : ∀ q, q ≤ m → ∃ xs : List α, xs.length = q ∧ (∀ x ∈ xs, ok x) ∧ ∀ j p, xs[j]? = some p → ∃ c, c.length = d.sz ∧ d.K w p c ∧ ∀ i u, c[i]? = some u → w.cell? (a.add (j * d.sz + i)) = some u := by
      intro q
      induction q with
      | zero => intro _; exact ⟨[], rfl, by simp, by simp⟩
      | succ q ih =>
        intro hq
        obtain ⟨xs, h1, h2, h3⟩ := ih (by omega)
        obtain ⟨cs', hc, ht'⟩ := hi q (by omega)
        obtain ⟨y, hK, hok⟩ := h H enc w base spare held n cs' _ ht'
        obtain ⟨_, hcl, hat⟩ := World.cells?_some hc
        refine ⟨xs ++ [y], by simp [h1], ?_, ?_⟩
        · intro z hz
          rcases List.mem_append.1 hz with hz | hz
          · exact h2 z hz
          · rw [List.mem_singleton.1 hz]; exact hok
        · intro j p hp
          rcases Nat.lt_or_ge j xs.length with hj | hj
          · rw [List.getElem?_append_left hj] at hp
            exact h3 j p hp
          · have hj' : j = xs.length := by
              have := (List.getElem?_eq_some_iff.1 hp).1
              rw [List.length_append, List.length_singleton] at this
              omega
            subst hj'
            have hp' : y = p := by simpa using hp
            subst hp'
            refine ⟨cs', d.K_len hK, hK, fun i u hu => ?_⟩
            have hlt : i < cs'.length := (List.getElem?_eq_some_iff.1 hu).1
            have := hat i (by rw [← hcl]; exact hlt)
            rw [h1, ← hs, ← Go.Deep.add_add, this, hu]
    obtain ⟨xs, h1, h2, h3⟩ := key len hlm
    unfold maxLen at hm
    subst h1
    exact ⟨xs, ⟨some a, cap, rfl, hl, rfl, by omega, fun _ => ⟨a, rfl, h3⟩⟩, by unfold maxLen; omega, h2⟩

/-- The fields from offset off on (the last field ends at N). -/
def OpensF (P : Program) {α : Type} (fs : List Field) (off N : Nat) (d : Kd α) (ok : α → Prop) : Prop :=
  ∀ (H : Type) (enc : TypeId × Value → H) (w : World) (base : Nat) (spare : Nat → Bool) (held : Bool) (fuel : Nat) (cs : List Value) (xs : List (DataW H × List MemPlace)), cs.length = N →
    (∀ (i : Nat) (f : Field), fs[i]? = some f → ∃ y, DataW.trod enc P w base spare held fuel f.type ((cs.drop f.offset).take (P.cellsOf f.type)) = some y) → ∃ a : α, d.K w a (cs.drop off) ∧ ok a

theorem OpensF.last {P : Program} {α : Type} {f : Field} {off N : Nat} {d : Kd α} {ok : α → Prop} (h : Opens P f.type d ok) (ho : f.offset = off) (hN : N = off + P.cellsOf f.type) : OpensF P [f] off N d ok := by
  intro H enc w base spare held fuel cs xs hl hx
  obtain ⟨y, hy⟩ := hx 0 f rfl
  rw [ho, List.take_of_length_le (by rw [List.length_drop]; omega)] at hy
  exact h H enc w base spare held fuel _ _ hy

theorem OpensF.cons {P : Program} {α β : Type} {f : Field} {fs : List Field} {off off' N : Nat} {d : Kd α} {ok : α → Prop} {d' : Kd β} {ok' : β → Prop} (h : Opens P f.type d ok) (ho : f.offset = off) (hn : off' = off + P.cellsOf f.type) (h' : OpensF P fs off' N d' ok') :
    OpensF P (f :: fs) off N (Kd.pair d d') (fun x => ok x.1 ∧ ok' x.2) := by
  intro H enc w base spare held fuel cs xs hl hx
  obtain ⟨y, hy⟩ := hx 0 f rfl
  obtain ⟨a, hK, hok⟩ := h H enc w base spare held fuel _ _ hy
  obtain ⟨b, hK', hok'⟩ := h' H enc w base spare held fuel cs (xs.drop 1) hl (fun i f hf => hx (i + 1) f hf)
  refine ⟨(a, b), ⟨_, _, ?_, hK, hK'⟩, hok, hok'⟩
  rw [ho, hn, ← List.drop_drop, List.take_append_drop]

theorem Opens.struct {P : Program} {α : Type} {t : TypeId} {fs : Array Field} {d : Kd α} {ok : α → Prop} (ht : P.underlying t = some (.struct fs)) (h : OpensF P fs.toList 0 (P.cellsOf t) d ok) : Opens P t d ok := by
  intro H enc w base spare held fuel cs x hx
  obtain ⟨xs, n, _, _, hl, hxl, hg⟩ := DataW.trod_struct ht hx
  obtain ⟨a, hK, hok⟩ := h H enc w base spare held n cs xs hl (fun i f hf => by
    have hf' : fs[i]? = some f := by simpa using hf
    have hi : i < fs.size := (Array.getElem?_eq_some_iff.1 hf').1
    exact ⟨xs[i]'(by omega), (hg i f hf').trans (List.getElem?_eq_getElem (by omega))⟩)
  rw [List.drop_zero] at hK
  exact ⟨a, hK, hok⟩

theorem Opens.iso {P : Program} {α β : Type} {t : TypeId} {d : Kd α} {ok : α → Prop} (h : Opens P t d ok) (f : β → α) (g : α → β) (hfg : ∀ a, f (g a) = a) : Opens P t (Kd.iso d f) (fun x => ok (f x)) := by
  intro H enc w base spare held fuel cs x hx
  obtain ⟨a, hK, hok⟩ := h H enc w base spare held fuel cs x hx
  exact ⟨g a, by show d.K w (f (g a)) cs; rw [hfg]; exact hK, by show ok (f (g a)); rw [hfg]; exact hok⟩

theorem Opens.imp {P : Program} {α : Type} {t : TypeId} {d : Kd α} {ok ok' : α → Prop} (h : Opens P t d ok) (hi : ∀ a, ok a → ok' a) : Opens P t d ok' := by
  intro H enc w base spare held fuel cs x hx
  obtain ⟨a, hK, hok⟩ := h H enc w base spare held fuel cs x hx
  exact ⟨a, hK, hi a hok⟩

end Go.Proofs.Ytikfdjgigeggjaa.Opn
