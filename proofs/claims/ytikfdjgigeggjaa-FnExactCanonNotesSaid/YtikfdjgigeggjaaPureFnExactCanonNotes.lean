/- Whatever the notes: CanonNotes of the program and of the reference answer alike, in memory of its own at each call, and the notes stay as they were; no condition beyond the form's own reach. -/
import Derived.Test.YtikfdjgigeggjaaSayFnExactCanonNotes
import Derived.Test.YtikfdjgigeggjaaPureKit
namespace Go.Proofs.Ytikfdjgigeggjaa.Pure
open Go.RowKit Go.Proofs.Ytikfdjgigeggjaa.MFnExactCanonNotes Go.Proofs.Ytikfdjgigeggjaa.PureKit Go.Proofs.YtikfdjgigeggjaaW.PrintWords Go.Proofs.YtikfdjgigeggjaaW.PrintLast
set_option linter.unusedSimpArgs false
set_option linter.unusedVariables false
theorem sz_big {n : Nat} (h : n ≤ 9223372036854775807) (hb : 1048576 < n) : wrap64 (1048576 - (n : Int)) < 0 := by rw [wrap_id (by omega) (by omega)]; omega
theorem sz_small {n : Nat} (hb : n ≤ 1048576) : ¬ wrap64 (1048576 - (n : Int)) < 0 ∧ wrap64 (1048576 - (n : Int)) = 1048576 - (n : Int) := by
  have h := wrap_id (x := 1048576 - (n : Int)) (by omega) (by omega)
  rw [h]; exact ⟨by omega, rfl⟩
def laws_toNoteS_c (x : S101) : S97 := ⟨x.f0, x.f1, (⟨x.f2.f0, x.f2.f1, x.f2.f2, x.f2.f3, x.f2.f4⟩ : S71)⟩
theorem laws_toNoteS_loop (x0 : List S101) (hn : x0.length ≤ 9223372036854775807) (d : Nat) : ∀ (k i : Nat) (acc : List S97), acc.length = x0.length → acc.take i = (x0.take i).map laws_toNoteS_c → i + d = x0.length → d < k →
    laws_toNoteS.l0 k x0 acc i = some (x0.map laws_toNoteS_c) := by
  induction d with
  | zero =>
    intro k i acc hl ht hd hk
    obtain ⟨k, rfl⟩ : ∃ m, k = m + 1 := ⟨k - 1, by omega⟩
    simp only [laws_toNoteS.l0]
    rw [if_neg (by omega)]
    rw [List.take_of_length_le (by omega), List.take_of_length_le (by omega)] at ht
    rw [ht]
  | succ d ih =>
    intro k i acc hl ht hd hk
    obtain ⟨k, rfl⟩ : ∃ m, k = m + 1 := ⟨k - 1, by omega⟩
    have hi : i < x0.length := by omega
    simp only [laws_toNoteS.l0, laws_toNote.f, laws_toGame.f, Option.bind_some]
    rw [if_pos (by omega), if_pos (by omega), if_pos (by omega), wrap_succ hi hn, show rd_T101 x0 (i : Int) = x0[i] from getD_nat _ x0 i hi, Int.toNat_natCast]
    exact ih k (i + 1) _ (by simp [hl]) (set_copy laws_toNoteS_c x0 acc i hi hl ht) (by omega) (by omega)
theorem laws_toNoteS_eq (x0 : List S101) (hn : x0.length ≤ 5026338869833) (k : Nat) (hk : x0.length < k) : laws_toNoteS.f k x0 = some (x0.map laws_toNoteS_c) := by
  unfold laws_toNoteS.f
  rw [if_pos (by omega), if_pos (by omega)]
  exact laws_toNoteS_loop x0 (by omega) x0.length k 0 _ (by simp) (by simp) (by omega) hk
theorem laws_eqNoteS_loop (x : List S97) (hn : x.length ≤ 9223372036854775807) (d : Nat) : ∀ (k i : Nat), i + d = x.length → d < k → laws_eqNoteS.l0 k x x i = some true := by
  induction d with
  | zero =>
    intro k i hd hk
    obtain ⟨k, rfl⟩ : ∃ m, k = m + 1 := ⟨k - 1, by omega⟩
    simp only [laws_eqNoteS.l0]
    rw [if_neg (by omega)]
  | succ d ih =>
    intro k i hd hk
    obtain ⟨k, rfl⟩ : ∃ m, k = m + 1 := ⟨k - 1, by omega⟩
    simp only [laws_eqNoteS.l0, laws_eqNote.f, laws_eqGame.f]
    rw [if_pos (by omega), if_pos (by omega), if_pos (by omega), wrap_succ (show i < x.length by omega) hn]
    simp only [if_true, Option.bind_some]
    exact ih k (i + 1) (by omega) (by omega)
theorem laws_eqNoteS_eq (x : List S97) (hn : x.length ≤ 9223372036854775807) (k : Nat) (hk : x.length < k) : laws_eqNoteS.f k x x = some true := by
  unfold laws_eqNoteS.f
  rw [if_pos rfl]
  exact laws_eqNoteS_loop x hn x.length k 0 (by omega) hk
def laws_markNoteS_rec (m : Int) : S97 := ⟨m, m + 1, (⟨m + 2, m + 3, m + 4, m + 5, m + 6⟩ : S71)⟩
theorem laws_markNoteS_loop (n : Nat) (hn : n ≤ 100000000) (d : Nat) : ∀ (k i : Nat) (l : List S97) (m : Int), l.length = n → i + d = n → d < k → 0 ≤ m → m + 7 * d ≤ 4000000000 →
    ∃ L, laws_markNoteS.l0 k l m i = some (m + 7 * d, L) ∧ L.length = n ∧ (∀ j, j < i → L[j]? = l[j]?) ∧ ∀ j : Nat, j < d → L[i + j]? = some (laws_markNoteS_rec (m + 7 * j)) := by
  induction d with
  | zero =>
    intro k i l m hl hd hk _ _
    obtain ⟨k, rfl⟩ : ∃ m, k = m + 1 := ⟨k - 1, by omega⟩
    simp only [laws_markNoteS.l0]
    rw [if_neg (by omega)]
    exact ⟨l, by simp, hl, fun _ _ => rfl, fun j hj => absurd hj (Nat.not_lt_zero _)⟩
  | succ d ih =>
    intro k i l m hl hd hk h0 hm
    obtain ⟨k, rfl⟩ : ∃ m, k = m + 1 := ⟨k - 1, by omega⟩
    have w1 : wrap64 (m + 1) = m + 1 := wrap_id (by omega) (by omega)
    have w2 : wrap64 (m + 1 + 1) = m + 1 + 1 := wrap_id (by omega) (by omega)
    have w3 : wrap64 (m + 1 + 1 + 1) = m + 1 + 1 + 1 := wrap_id (by omega) (by omega)
    have w4 : wrap64 (m + 1 + 1 + 1 + 1) = m + 1 + 1 + 1 + 1 := wrap_id (by omega) (by omega)
    have w5 : wrap64 (m + 1 + 1 + 1 + 1 + 1) = m + 1 + 1 + 1 + 1 + 1 := wrap_id (by omega) (by omega)
    have w6 : wrap64 (m + 1 + 1 + 1 + 1 + 1 + 1) = m + 1 + 1 + 1 + 1 + 1 + 1 := wrap_id (by omega) (by omega)
    have w7 : wrap64 (m + 1 + 1 + 1 + 1 + 1 + 1 + 1) = m + 1 + 1 + 1 + 1 + 1 + 1 + 1 := wrap_id (by omega) (by omega)
    have hlt : (i : Int) < (l.length : Int) := by omega
    have hi0 : (0 : Int) ≤ (i : Int) := by omega
    have hr : ∀ r, rd_T97 (l.set i r) (i : Int) = r := fun r => by rw [show rd_T97 (l.set i r) (i : Int) = (l.set i r)[i]'(by rw [List.length_set]; omega) from getD_nat _ _ i (by rw [List.length_set]; omega)]; simp
    simp only [laws_markNoteS.l0, Option.bind_some, hlt, hi0, if_true, w1, w2, w3, w4, w5, w6, w7, wrap_succ (show i < n by omega) (by omega), Int.toNat_natCast, hr, List.set_set]
    obtain ⟨L, hL, h1, h2, h3⟩ := ih k (i + 1) (l.set i (laws_markNoteS_rec m)) (m + 1 + 1 + 1 + 1 + 1 + 1 + 1) (by simp [hl]) (by omega) (by omega) (by omega) (by omega)
    refine ⟨L, by rw [show m + 7 * ((d + 1 : Nat) : Int) = m + 1 + 1 + 1 + 1 + 1 + 1 + 1 + 7 * d by omega, ← hL]; simp only [laws_markNoteS_rec, show m + 2 = m + 1 + 1 by omega, show m + 3 = m + 1 + 1 + 1 by omega, show m + 4 = m + 1 + 1 + 1 + 1 by omega, show m + 5 = m + 1 + 1 + 1 + 1 + 1 by omega, show m + 6 = m + 1 + 1 + 1 + 1 + 1 + 1 by omega], h1, fun j hj => ?_, fun j hj => ?_⟩
    · rw [h2 j (by omega), List.getElem?_set_ne (by omega)]
    · cases j with
      | zero =>
        rw [Nat.add_zero, h2 i (by omega), List.getElem?_set_self (by omega)]
        simp
      | succ j =>
        rw [show i + (j + 1) = i + 1 + j by omega, h3 j (by omega), show m + 7 * ((j + 1 : Nat) : Int) = m + 1 + 1 + 1 + 1 + 1 + 1 + 1 + 7 * j by omega]
theorem laws_markNoteS_eq (l : List S97) (hn : l.length ≤ 100000000) (k : Nat) (hk : l.length < k) : ∃ L, laws_markNoteS.f k l 1 = some (1 + 7 * (l.length : Int), L) ∧ L.length = l.length ∧ ∀ j : Nat, j < l.length → L[j]? = some (laws_markNoteS_rec (1 + 7 * j)) := by
  obtain ⟨L, h1, h2, _, h3⟩ := laws_markNoteS_loop l.length hn l.length k 0 l 1 rfl (by omega) hk (by omega) (by omega)
  exact ⟨L, h1, h2, fun j hj => by have := h3 j hj; rwa [Nat.zero_add] at this⟩
theorem laws_heldNoteS_loop (L : List S97) (n : Nat) (hL : L.length = n) (hn : n ≤ 100000000) (d : Nat) : ∀ (k i : Nat) (m : Int), i + d = n → d < k → 0 ≤ m → m + 7 * d ≤ 4000000000 → (∀ j : Nat, j < d → L[i + j]? = some (laws_markNoteS_rec (m + 7 * j))) →
    laws_heldNoteS.l0 k L m i = some (m + 7 * d) := by
  induction d with
  | zero =>
    intro k i m hd hk _ _ _
    obtain ⟨k, rfl⟩ : ∃ m, k = m + 1 := ⟨k - 1, by omega⟩
    simp only [laws_heldNoteS.l0]
    rw [if_neg (by omega)]
    simp
  | succ d ih =>
    intro k i m hd hk h0 hm hdr
    obtain ⟨k, rfl⟩ : ∃ m, k = m + 1 := ⟨k - 1, by omega⟩
    have w1 : wrap64 (m + 1) = m + 1 := wrap_id (by omega) (by omega)
    have w2 : wrap64 (m + 1 + 1) = m + 1 + 1 := wrap_id (by omega) (by omega)
    have w3 : wrap64 (m + 1 + 1 + 1) = m + 1 + 1 + 1 := wrap_id (by omega) (by omega)
    have w4 : wrap64 (m + 1 + 1 + 1 + 1) = m + 1 + 1 + 1 + 1 := wrap_id (by omega) (by omega)
    have w5 : wrap64 (m + 1 + 1 + 1 + 1 + 1) = m + 1 + 1 + 1 + 1 + 1 := wrap_id (by omega) (by omega)
    have w6 : wrap64 (m + 1 + 1 + 1 + 1 + 1 + 1) = m + 1 + 1 + 1 + 1 + 1 + 1 := wrap_id (by omega) (by omega)
    have w7 : wrap64 (m + 1 + 1 + 1 + 1 + 1 + 1 + 1) = m + 1 + 1 + 1 + 1 + 1 + 1 + 1 := wrap_id (by omega) (by omega)
    have hi : i < L.length := by omega
    have hlt : (i : Int) < (L.length : Int) := by omega
    have hi0 : (0 : Int) ≤ (i : Int) := by omega
    have hr : rd_T97 L (i : Int) = laws_markNoteS_rec m := by
      rw [show rd_T97 L (i : Int) = L[i] from getD_nat _ L i hi]
      have := hdr 0 (by omega)
      rw [Nat.add_zero, List.getElem?_eq_getElem hi] at this
      simpa using this
    simp only [laws_heldNoteS.l0, hlt, hi0, if_true, hr, laws_markNoteS_rec, w1, w2, w3, w4, w5, w6, w7, wrap_succ (show i < n by omega) (by omega), show m + 2 = m + 1 + 1 by omega, show m + 3 = m + 1 + 1 + 1 by omega, show m + 4 = m + 1 + 1 + 1 + 1 by omega, show m + 5 = m + 1 + 1 + 1 + 1 + 1 by omega, show m + 6 = m + 1 + 1 + 1 + 1 + 1 + 1 by omega]
    rw [ih k (i + 1) (m + 1 + 1 + 1 + 1 + 1 + 1 + 1) (by omega) (by omega) (by omega) (by omega) (fun j hj => by
      have := hdr (j + 1) (by omega)
      rw [show i + (j + 1) = i + 1 + j by omega, show m + 7 * ((j + 1 : Nat) : Int) = m + 1 + 1 + 1 + 1 + 1 + 1 + 1 + 7 * j by omega] at this
      exact this)]
    congr 1
    omega
theorem laws_heldNoteS_eq (L : List S97) (n : Nat) (hL : L.length = n) (hn : n ≤ 100000000) (h : ∀ j : Nat, j < n → L[j]? = some (laws_markNoteS_rec (1 + 7 * j))) (k : Nat) (hk : n < k) : laws_heldNoteS.f k L 1 = some (1 + 7 * (n : Int)) := by
  unfold laws_heldNoteS.f
  exact laws_heldNoteS_loop L n hL hn n k 0 1 (by omega) hk (by omega) (by omega) (fun j hj => by rw [Nat.zero_add]; exact h j hj)
/-! Of each key the first, sorted by key: by insertion, or by a stable sort that is compacted. -/
section
variable {α : Type} (key : α → Int)
def cnIns : List α → α → List α
  | [], n => [n]
  | y :: r, n => if key y < key n then y :: cnIns r n else if key y = key n then y :: r else n :: y :: r
def CnS (l : List α) : Prop := l.Pairwise (fun x y => key x < key y)
def cnF (l : List α) (s : Int) : Option α := l.find? (fun x => key x == s)
theorem cnF_cons (a : α) (l : List α) (s : Int) : cnF key (a :: l) s = if key a = s then some a else cnF key l s := by
  unfold cnF
  rw [List.find?_cons]
  by_cases h : key a = s
  · simp [h]
  · have h2 : (key a == s) = false := by simpa using h
    simp only [h2, if_neg h]
theorem cn_unique (l : List α) : ∀ l', CnS key l → CnS key l' → (∀ s, cnF key l s = cnF key l' s) → l = l' := by
  induction l with
  | nil =>
    intro l' _ _ h
    cases l' with
    | nil => rfl
    | cons b r => have := h (key b); rw [cnF_cons, if_pos rfl] at this; simp [cnF] at this
  | cons a l ih =>
    intro l' hs hs' h
    cases l' with
    | nil => have := h (key a); rw [cnF_cons, if_pos rfl] at this; simp [cnF] at this
    | cons b r =>
      have p1 := List.pairwise_cons.1 hs
      have p2 := List.pairwise_cons.1 hs'
      have none1 : cnF key l (key a) = none := by
        unfold cnF; rw [List.find?_eq_none]; intro x hx; have := p1.1 x hx; simp; omega
      have none2 : cnF key r (key b) = none := by
        unfold cnF; rw [List.find?_eq_none]; intro x hx; have := p2.1 x hx; simp; omega
      have mem : ∀ (m : List α) (s : Int) (x : α), cnF key m s = some x → x ∈ m ∧ key x = s := by
        intro m s x hx
        unfold cnF at hx
        exact ⟨List.mem_of_find?_eq_some hx, by have := List.find?_some hx; simpa using this⟩
      have hab : key a = key b := by
        have h1 := h (key a)
        rw [cnF_cons, if_pos rfl] at h1
        have h2 := h (key b)
        rw [cnF_cons key b r, if_pos rfl] at h2
        have m1 := mem _ _ _ h1.symm
        have m2 := mem _ _ _ h2
        have c1 : key b ≤ key a := by
          rcases List.mem_cons.1 m1.1 with e | e
          · rw [e]; exact Int.le_refl _
          · exact Int.le_of_lt (p2.1 a e)
        have c2 : key a ≤ key b := by
          rcases List.mem_cons.1 m2.1 with e | e
          · rw [e]; exact Int.le_refl _
          · exact Int.le_of_lt (p1.1 b e)
        omega
      have hab2 : a = b := by
        have h1 := h (key a)
        rw [cnF_cons, if_pos rfl, cnF_cons, if_pos hab.symm] at h1
        exact Option.some.inj h1
      subst hab2
      rw [ih r p1.2 p2.2 (fun s => by
        have h1 := h s
        rw [cnF_cons, cnF_cons] at h1
        by_cases c : key a = s
        · rw [← c, none1, none2]
        · rwa [if_neg c, if_neg c] at h1)]
theorem cnIns_mem (l : List α) (n x : α) (h : x ∈ cnIns key l n) : x ∈ l ∨ x = n := by
  induction l with
  | nil => simp [cnIns] at h; exact .inr h
  | cons y r ih =>
    unfold cnIns at h
    split at h
    · rcases List.mem_cons.1 h with e | e
      · exact .inl (by rw [e]; simp)
      · rcases ih e with e | e
        · exact .inl (List.mem_cons_of_mem _ e)
        · exact .inr e
    · split at h
      · exact .inl h
      · rcases List.mem_cons.1 h with e | e
        · exact .inr e
        · exact .inl e
theorem cnIns_ok (l : List α) (n : α) (h : CnS key l) : CnS key (cnIns key l n) ∧ ∀ s, cnF key (cnIns key l n) s = cnF key (l ++ [n]) s := by
  induction l with
  | nil => exact ⟨List.pairwise_singleton _ _, fun _ => rfl⟩
  | cons y r ih =>
    have hp := List.pairwise_cons.1 h
    unfold cnIns
    by_cases c1 : key y < key n
    · rw [if_pos c1]
      refine ⟨List.pairwise_cons.2 ⟨fun z hz => ?_, (ih hp.2).1⟩, fun s => ?_⟩
      · rcases cnIns_mem key r n z hz with e | e
        · exact hp.1 z e
        · rw [e]; exact c1
      · rw [List.cons_append, cnF_cons, cnF_cons, (ih hp.2).2 s]
    · rw [if_neg c1]
      by_cases c2 : key y = key n
      · rw [if_pos c2]
        refine ⟨h, fun s => ?_⟩
        rw [List.cons_append, cnF_cons, cnF_cons]
        by_cases c : key y = s
        · rw [if_pos c, if_pos c]
        · rw [if_neg c, if_neg c]
          unfold cnF
          rw [List.find?_append]
          have : [n].find? (fun x => key x == s) = none := by simp; omega
          rw [this]
          simp
      · rw [if_neg c2]
        refine ⟨List.pairwise_cons.2 ⟨fun z hz => ?_, h⟩, fun s => ?_⟩
        · rcases List.mem_cons.1 hz with e | e
          · rw [e]; omega
          · have := hp.1 z e; omega
        · rw [cnF_cons]
          by_cases c : key n = s
          · rw [if_pos c]
            have none1 : (y :: r).find? (fun x => key x == s) = none := by
              rw [List.find?_eq_none]
              intro x hx
              rcases List.mem_cons.1 hx with e | e
              · rw [e]; simp; omega
              · have := hp.1 x e; simp; omega
            unfold cnF
            rw [List.find?_append, none1]
            simp [c]
          · rw [if_neg c]
            unfold cnF
            rw [List.find?_append]
            have : [n].find? (fun x => key x == s) = none := by simp; omega
            rw [this]
            simp
theorem cn_fold (l : List α) : ∀ out, CnS key out → CnS key (l.foldl (cnIns key) out) ∧ ∀ s, cnF key (l.foldl (cnIns key) out) s = cnF key (out ++ l) s := by
  induction l with
  | nil => intro out h; exact ⟨h, fun s => by simp⟩
  | cons n r ih =>
    intro out h
    have h1 := cnIns_ok key out n h
    have h2 := ih _ h1.1
    refine ⟨h2.1, fun s => ?_⟩
    rw [List.foldl_cons, h2.2 s]
    have h3 := h1.2 s
    unfold cnF at h3 ⊢
    rw [List.find?_append, h3, List.find?_append, List.find?_append, List.find?_cons, Option.or_assoc]
    simp only [List.find?_cons, List.find?_nil]
    split <;> simp
theorem cn_cpF (eq : α → α → Bool) (heq : ∀ y x, eq y x = (key y == key x)) (m : List α) : ∀ a, (a :: m).Pairwise (fun x y => key x ≤ key y) → CnS key (a :: cpF eq a m) ∧ ∀ s, cnF key (a :: cpF eq a m) s = cnF key (a :: m) s := by
  induction m with
  | nil => intro a h; exact ⟨List.pairwise_singleton _ _, fun _ => rfl⟩
  | cons y r ih =>
    intro a h
    have hp := List.pairwise_cons.1 h
    have hy := ih y hp.2
    have hay := hp.1 y (by simp)
    unfold cpF
    rw [heq]
    by_cases c : key y = key a
    · have c1 : (key y == key a) = true := by simpa using c
      rw [if_pos c1]
      have q := List.pairwise_cons.1 hy.1
      refine ⟨List.pairwise_cons.2 ⟨fun z hz => by have := q.1 z hz; omega, q.2⟩, fun s => ?_⟩
      have h1 := hy.2 s
      rw [cnF_cons, cnF_cons] at h1
      rw [cnF_cons, cnF_cons, cnF_cons]
      by_cases d : key a = s
      · rw [if_pos d, if_pos d]
      · rw [if_neg d, if_neg d, if_neg (by omega)]
        rwa [if_neg (by omega), if_neg (by omega)] at h1
    · have c1 : ¬ ((key y == key a) = true) := by simpa using c
      rw [if_neg c1]
      have q := List.pairwise_cons.1 hy.1
      refine ⟨List.pairwise_cons.2 ⟨fun z hz => ?_, hy.1⟩, fun s => ?_⟩
      · rcases List.mem_cons.1 hz with e | e
        · rw [e]; omega
        · have := q.1 z e; omega
      · rw [cnF_cons, hy.2 s, cnF_cons key a]
theorem cn_cpP (eq : α → α → Bool) (heq : ∀ y x, eq y x = (key y == key x)) (m : List α) (h : m.Pairwise (fun x y => key x ≤ key y)) : CnS key (cpP eq m) ∧ ∀ s, cnF key (cpP eq m) s = cnF key m s := by
  cases m with
  | nil => exact ⟨List.Pairwise.nil, fun _ => rfl⟩
  | cons a r => exact cn_cpF key eq heq r a h
/-- A stable sort that is compacted is the insertion of each key's first. -/
theorem cn_main (eq : α → α → Bool) (heq : ∀ y x, eq y x = (key y == key x)) (l m : List α) (h : StS key m) (hm : StE key l m) : cpP eq m = l.foldl (cnIns key) [] := by
  have h1 := cn_cpP key eq heq m h
  have h2 := cn_fold key l [] List.Pairwise.nil
  refine cn_unique key _ _ h1.1 h2.1 (fun s => ?_)
  rw [h1.2 s, h2.2 s, List.nil_append]
  unfold cnF
  have := congrArg List.head? (hm s)
  rwa [List.head?_filter, List.head?_filter] at this
end
abbrev cnK (x : S97) : Int := x.f0
theorem cn_rd (l : List S97) (i : Nat) (h : i < l.length) : rd_T97 l (i : Int) = l[i] := getD_nat _ l i h
theorem cn_get (A B : List S97) (y : S97) : rd_T97 (A ++ y :: B) (A.length : Int) = y := by
  rw [cn_rd _ _ (by simp)]; simp
/-- The shift by one, and the store. -/
theorem cn_shift (l : List S97) (N j0 : Int) (n : S97) (r : Option (List S97)) (K : Nat) (A : List S97) (B1 : List S97) : ∀ (m : Nat) (B2 : List S97) (c : S97) (k : Nat), B1.length = m → (A ++ B1 ++ [c] ++ B2).length < 100000000 → K + m < k →
    (∀ k, K ≤ k → spec_CanonNotes.l0 k (A ++ n :: (B1 ++ B2)) l N (wrap64 (j0 + 1)) = r) →
    spec_CanonNotes.l2 k (A ++ B1 ++ [c] ++ B2) A.length ((A.length + m : Nat) : Int) l N j0 n.f0 n.f1 n.f2.f0 n.f2.f1 n.f2.f2 n.f2.f3 n.f2.f4 = r := by
  intro m
  induction m generalizing B1 with
  | zero =>
    intro B2 c k hm hl hk hr
    obtain ⟨k, rfl⟩ : ∃ q, k = q + 1 := ⟨k - 1, by omega⟩
    have hB : B1 = [] := List.eq_nil_of_length_eq_zero hm
    subst hB
    have e1 : (A ++ [] ++ [c] ++ B2).set A.length n = A ++ n :: B2 := by simp
    have hi : (A.length : Int) < ((A ++ [] ++ [c] ++ B2).length : Int) := by simp; omega
    simp only [spec_CanonNotes.l2, Nat.add_zero]
    rw [if_neg (by omega), if_pos (by omega), if_pos hi, Int.toNat_natCast]
    show spec_CanonNotes.l0 k ((A ++ [] ++ [c] ++ B2).set A.length n) l N (wrap64 (j0 + 1)) = r
    rw [e1]
    exact hr k (by omega)
  | succ m ih =>
    intro B2 c k hm hl hk hr
    obtain ⟨k, rfl⟩ : ∃ q, k = q + 1 := ⟨k - 1, by omega⟩
    obtain ⟨B, b, rfl⟩ : ∃ B b, B1 = B ++ [b] := by
      rcases List.eq_nil_or_concat B1 with h | ⟨B, b, h⟩
      · rw [h] at hm; simp at hm
      · exact ⟨B, b, by rw [h, List.concat_eq_append]⟩
    have hBl : B.length = m := by simpa using hm
    have hlen : (A ++ (B ++ [b]) ++ [c] ++ B2).length = A.length + m + 2 + B2.length := by simp; omega
    have w1 : wrap64 (((A.length + (m + 1) : Nat) : Int) - 1) = ((A.length + m : Nat) : Int) := by rw [wrap_id (by omega) (by omega)]; omega
    have hrd : rd_T97 (A ++ (B ++ [b]) ++ [c] ++ B2) ((A.length + m : Nat) : Int) = b := by
      have := cn_get (A ++ B) ([c] ++ B2) b
      rw [List.length_append, hBl] at this
      simpa using this
    have e1 : (A ++ (B ++ [b]) ++ [c] ++ B2).set (A.length + (m + 1)) b = A ++ B ++ [b] ++ (b :: B2) := by
      rw [show A ++ (B ++ [b]) ++ [c] ++ B2 = (A ++ B ++ [b]) ++ c :: B2 by simp, show A.length + (m + 1) = (A ++ B ++ [b]).length by simp; omega, List.set_append_right _ _ (Nat.le_refl _), Nat.sub_self]
      rfl
    simp only [spec_CanonNotes.l2, w1, hrd]
    rw [if_pos (by omega), if_pos (by omega), if_pos (by omega), if_pos (by omega), if_pos (by omega), Int.toNat_natCast]
    show spec_CanonNotes.l2 k ((A ++ (B ++ [b]) ++ [c] ++ B2).set (A.length + (m + 1)) b) A.length ((A.length + m : Nat) : Int) l N j0 n.f0 n.f1 n.f2.f0 n.f2.f1 n.f2.f2 n.f2.f3 n.f2.f4 = r
    rw [e1]
    refine ih B (b :: B2) b k hBl (by simp at hl ⊢; omega) (by omega) (fun k hk => ?_)
    have := hr k hk
    simpa using this
/-- One note: it is looked for, and put in where it is missing. -/
theorem cn_one (l : List S97) (N j0 : Int) (n : S97) (r : Option (List S97)) (K : Nat) (B : List S97) : ∀ (A : List S97) (k : Nat), (A ++ B).length < 10000000 → K + 2 * B.length + 5 < k →
    (∀ k, K ≤ k → spec_CanonNotes.l0 k (A ++ cnIns cnK B n) l N (wrap64 (j0 + 1)) = r) →
    spec_CanonNotes.l1 k (A ++ B) A.length l N j0 n.f0 n.f1 n.f2.f0 n.f2.f1 n.f2.f2 n.f2.f3 n.f2.f4 = r := by
  have put : ∀ (A B : List S97) (k : Nat), (A ++ B).length < 10000000 → K + B.length + 2 < k → (∀ k, K ≤ k → spec_CanonNotes.l0 k (A ++ n :: B) l N (wrap64 (j0 + 1)) = r) →
      spec_CanonNotes.j3 k (A ++ B) A.length l N j0 false n.f0 n.f1 n.f2.f0 n.f2.f1 n.f2.f2 n.f2.f3 n.f2.f4 = r := by
    intro A B k hl hk hr
    obtain ⟨k, rfl⟩ : ∃ q, k = q + 1 := ⟨k - 1, by omega⟩
    simp only [spec_CanonNotes.j3, Bool.false_eq_true, if_false, Option.bind_some]
    rw [if_pos (by omega)]
    have w1 : wrap64 (((A ++ B ++ [(⟨0, 0, (⟨0, 0, 0, 0, 0⟩ : S71)⟩ : S97)]).length : Int) - 1) = ((A.length + B.length : Nat) : Int) := by
      rw [wrap_id (by simp; omega) (by simp; simp at hl; omega)]; simp; omega
    rw [w1]
    have := cn_shift l N j0 n r K A B B.length [] (⟨0, 0, (⟨0, 0, 0, 0, 0⟩ : S71)⟩ : S97) k rfl (by simp at hl ⊢; omega) (by omega) (fun k hk => by rw [List.append_nil]; exact hr k hk)
    rw [List.append_nil] at this
    exact this
  induction B with
  | nil =>
    intro A k hl hk hr
    obtain ⟨k, rfl⟩ : ∃ q, k = q + 2 := ⟨k - 2, by omega⟩
    simp only [spec_CanonNotes.l1, spec_CanonNotes.j2]
    rw [if_neg (by simp), if_neg (by simp)]
    exact put A [] k hl (by omega) hr
  | cons y B ih =>
    intro A k hl hk hr
    obtain ⟨k, rfl⟩ : ∃ q, k = q + 1 := ⟨k - 1, by omega⟩
    have hi : (A.length : Int) < ((A ++ y :: B).length : Int) := by simp; omega
    have w1 : wrap64 ((A.length : Int) + 1) = ((A ++ [y]).length : Int) := by rw [wrap_id (by omega) (by simp at hl; omega)]; simp
    simp only [spec_CanonNotes.l1, cn_get]
    rw [if_pos hi, if_pos (by omega)]
    unfold cnIns at hr
    by_cases c1 : y.f0 < n.f0
    · rw [if_pos c1, w1]
      have := ih (A ++ [y]) k (by simpa using hl) (by simp at hk; omega) (fun k hk => by have := hr k hk; rw [if_pos (show cnK y < cnK n from c1)] at this; simpa using this)
      rw [List.append_assoc] at this
      exact this
    · rw [if_neg c1]
      obtain ⟨k, rfl⟩ : ∃ q, k = q + 1 := ⟨k - 1, by simp at hk; omega⟩
      simp only [spec_CanonNotes.j2, cn_get]
      rw [if_pos hi, if_pos (by omega)]
      by_cases c2 : y.f0 = n.f0
      · rw [show (y.f0 == n.f0) = true by simpa using c2]
        obtain ⟨k, rfl⟩ : ∃ q, k = q + 1 := ⟨k - 1, by simp at hk; omega⟩
        simp only [spec_CanonNotes.j3, if_true]
        have := hr k (by simp at hk; omega)
        rwa [if_neg (show ¬ cnK y < cnK n from c1), if_pos (show cnK y = cnK n from c2)] at this
      · rw [show (y.f0 == n.f0) = false by simpa using c2]
        refine put A (y :: B) k hl (by simp at hk ⊢; omega) (fun k hk => ?_)
        have := hr k hk
        rwa [if_neg (show ¬ cnK y < cnK n from c1), if_neg (show ¬ cnK y = cnK n from c2)] at this
theorem cnIns_len (B : List S97) (n : S97) : (cnIns cnK B n).length ≤ B.length + 1 := by
  induction B with
  | nil => simp [cnIns]
  | cons y B ih =>
    unfold cnIns
    split
    · simp only [List.length_cons]; omega
    · split <;> simp
/-- All notes. -/
theorem cn_loop (l : List S97) (hn : l.length ≤ 1048576) (d : Nat) : ∀ (k i : Nat) (out : List S97), i + d = l.length → out.length ≤ i → d * 3000000 + 1 ≤ k →
    spec_CanonNotes.l0 k out l l.length i = some ((l.drop i).foldl (cnIns cnK) out) := by
  induction d with
  | zero =>
    intro k i out hd ho hk
    obtain ⟨k, rfl⟩ : ∃ q, k = q + 1 := ⟨k - 1, by omega⟩
    simp only [spec_CanonNotes.l0]
    rw [if_neg (by omega), List.drop_of_length_le (by omega)]
    rfl
  | succ d ih =>
    intro k i out hd ho hk
    obtain ⟨k, rfl⟩ : ∃ q, k = q + 1 := ⟨k - 1, by omega⟩
    have hi : i < l.length := by omega
    simp only [spec_CanonNotes.l0, cn_rd l i hi]
    rw [if_pos (by omega), if_pos (by omega), if_pos (by omega), List.drop_eq_getElem_cons hi, List.foldl_cons]
    refine cn_one l (l.length : Int) (i : Int) l[i] _ (d * 3000000 + 1) out [] k (by simp; omega) (by omega) (fun k hk => ?_)
    rw [wrap_id (by omega) (by omega), List.nil_append]
    exact ih k (i + 1) (cnIns cnK out l[i]) (by omega) (by have := cnIns_len out l[i]; omega) hk
theorem cn_foldlen (l : List S97) : ∀ out : List S97, (l.foldl (cnIns cnK) out).length ≤ out.length + l.length := by
  induction l with
  | nil => intro out; simp
  | cons n r ih => intro out; rw [List.foldl_cons]; have h1 := ih (cnIns cnK out n); have h2 := cnIns_len out n; simp only [List.length_cons]; omega
theorem FnExactCanonNotes : FnExactCanonNotes_pure := by
  intro l hl _
  unfold maxLen at hl
  obtain ⟨K, hK⟩ : ∃ K, K = l.length * 3000000 + 5 := ⟨_, rfl⟩
  refine ⟨K + 1, ?_⟩
  unfold laws_FnExactCanonNotes.f laws_szNoteS.f
  by_cases hb : 1048576 < l.length
  · rw [if_pos (sz_big (by omega) hb)]; rfl
  · obtain ⟨h1, h2⟩ := sz_small (show l.length ≤ 1048576 by omega)
    have e := laws_toNoteS_eq l (by omega) (K + 1) (by omega)
    have e' := laws_toNoteS_eq l (by omega) K (by omega)
    generalize hm : l.map laws_toNoteS_c = m at e e'
    have hml : m.length = l.length := by rw [← hm]; simp
    have e1 : spec_CanonNotes.f (K + 1) m = some (m.foldl (cnIns cnK) []) := by
      have := cn_loop m (by omega) m.length (K + 1) 0 [] (by omega) (by simp) (by omega)
      rw [List.drop_zero] at this
      exact this
    have e2 : impl_CanonNotes.f m = some (m.foldl (cnIns cnK) []) := by
      unfold impl_CanonNotes.f
      rw [if_pos (by omega), cn_main cnK impl_CanonNotes.eq (fun _ _ => rfl) m _ (impl_CanonNotes.sort_ok m).1 (impl_CanonNotes.sort_ok m).2]
    have hw := cn_foldlen m []
    rw [List.length_nil, Nat.zero_add] at hw
    generalize m.foldl (cnIns cnK) [] = q at e1 e2 hw
    have eq := laws_eqNoteS_eq m (by omega) (K + 1) (by omega)
    have eqi := laws_eqNoteS_eq q (by omega) (K + 1) (by omega)
    have eqi' := laws_eqNoteS_eq q (by omega) K (by omega)
    obtain ⟨L, eM, _, _⟩ := laws_markNoteS_eq m (by omega) (K + 1) (by omega)
    obtain ⟨L2, mk, hL2, hm2⟩ := laws_markNoteS_eq q (by omega) K (by omega)
    have hd := laws_heldNoteS_eq L2 q.length hL2 (by omega) hm2 K (by omega)
    have n1 : ¬ (1 + 7 * (m.length : Int) < 0) := by omega
    have n2 : ¬ (1 + 7 * (q.length : Int) < 0) := by omega
    rw [if_neg h1]
    simp only [Option.bind_some, h1, if_false, e, e', e1, e2, eq, eqi, eqi', eM, if_true, laws_FnExactCanonNotes.j0, mk, hd, n1, n2, Bool.not_true, Bool.false_eq_true]

end Go.Proofs.Ytikfdjgigeggjaa.Pure
