/- Whatever the notes and the game: Corrections of the program and of the reference answer alike, and the notes stay as they were; no condition beyond the form's own reach. -/
import Derived.Test.YtmifcjkbjjnelaaSayFnExactCorrections
import Derived.Test.YtmifcjkbjjnelaaPureKit
namespace Go.Proofs.Ytmifcjkbjjnelaa.Pure
open Go.RowKit Go.Proofs.Ytmifcjkbjjnelaa.MFnExactCorrections Go.Proofs.Ytmifcjkbjjnelaa.PureKit Go.Proofs.YtmifcjkbjjnelaaW.PrintWords Go.Proofs.YtmifcjkbjjnelaaW.PrintLast
set_option linter.unusedSimpArgs false
set_option linter.unusedVariables false
theorem sz_big {n : Nat} (h : n ≤ 9223372036854775807) (hb : 1048576 < n) : wrap64 (1048576 - (n : Int)) < 0 := by rw [wrap_id (by omega) (by omega)]; omega
theorem sz_small {n : Nat} (hb : n ≤ 1048576) : ¬ wrap64 (1048576 - (n : Int)) < 0 ∧ wrap64 (1048576 - (n : Int)) = 1048576 - (n : Int) := by
  have h := wrap_id (x := 1048576 - (n : Int)) (by omega) (by omega)
  rw [h]; exact ⟨by omega, rfl⟩
def laws_toNoteS_c (x : S79) : S75 := ⟨x.f0, x.f1, (⟨x.f2.f0, x.f2.f1, x.f2.f2, x.f2.f3, x.f2.f4⟩ : S66)⟩
theorem laws_toNoteS_loop (x0 : List S79) (hn : x0.length ≤ 9223372036854775807) (d : Nat) : ∀ (k i : Nat) (acc : List S75), acc.length = x0.length → acc.take i = (x0.take i).map laws_toNoteS_c → i + d = x0.length → d < k →
    laws_toNoteS.l0 k x0 acc i = some (x0.map laws_toNoteS_c) := by
  induction d with
  | zero =>
    intro k i acc hl ht hd hk
    obtain ⟨k, rfl⟩ : ∃ m, k = m + 1 := ⟨k - 1, by omega⟩
    simp only [laws_toNoteS.l0]
    rw [if_neg (by omega)]
    rw [List.take_of_length_le (by omega), List.take_of_length_le (by omega)] at ht
    rw [ht]
  | succ d ih =>
    intro k i acc hl ht hd hk
    obtain ⟨k, rfl⟩ : ∃ m, k = m + 1 := ⟨k - 1, by omega⟩
    have hi : i < x0.length := by omega
    simp only [laws_toNoteS.l0, laws_toNote.f, laws_toGame.f, Option.bind_some]
    rw [if_pos (by omega), if_pos (by omega), if_pos (by omega), wrap_succ hi hn, show rd_T79 x0 (i : Int) = x0[i] from getD_nat _ x0 i hi, Int.toNat_natCast]
    exact ih k (i + 1) _ (by simp [hl]) (set_copy laws_toNoteS_c x0 acc i hi hl ht) (by omega) (by omega)
theorem laws_toNoteS_eq (x0 : List S79) (hn : x0.length ≤ 5026338869833) (k : Nat) (hk : x0.length < k) : laws_toNoteS.f k x0 = some (x0.map laws_toNoteS_c) := by
  unfold laws_toNoteS.f
  rw [if_pos (by omega), if_pos (by omega)]
  exact laws_toNoteS_loop x0 (by omega) x0.length k 0 _ (by simp) (by simp) (by omega) hk
theorem laws_eqNoteS_loop (x : List S75) (hn : x.length ≤ 9223372036854775807) (d : Nat) : ∀ (k i : Nat), i + d = x.length → d < k → laws_eqNoteS.l0 k x x i = some true := by
  induction d with
  | zero =>
    intro k i hd hk
    obtain ⟨k, rfl⟩ : ∃ m, k = m + 1 := ⟨k - 1, by omega⟩
    simp only [laws_eqNoteS.l0]
    rw [if_neg (by omega)]
  | succ d ih =>
    intro k i hd hk
    obtain ⟨k, rfl⟩ : ∃ m, k = m + 1 := ⟨k - 1, by omega⟩
    simp only [laws_eqNoteS.l0, laws_eqNote.f, laws_eqGame.f]
    rw [if_pos (by omega), if_pos (by omega), if_pos (by omega), wrap_succ (show i < x.length by omega) hn]
    simp only [if_true, Option.bind_some]
    exact ih k (i + 1) (by omega) (by omega)
theorem laws_eqNoteS_eq (x : List S75) (hn : x.length ≤ 9223372036854775807) (k : Nat) (hk : x.length < k) : laws_eqNoteS.f k x x = some true := by
  unfold laws_eqNoteS.f
  rw [if_pos rfl]
  exact laws_eqNoteS_loop x hn x.length k 0 (by omega) hk
theorem has_loop (t : Int) (x : List Int) (hn : x.length ≤ 9223372036854775807) (d : Nat) : ∀ (k i : Nat), i + d = x.length → d < k →
    spec_l02Has.l0 k t x x.length i = some (decide (t ∈ x.drop i)) := by
  induction d with
  | zero =>
    intro k i hd hk
    obtain ⟨k, rfl⟩ : ∃ m, k = m + 1 := ⟨k - 1, by omega⟩
    simp only [spec_l02Has.l0]
    rw [if_neg (by omega), List.drop_of_length_le (by omega)]
    simp
  | succ d ih =>
    intro k i hd hk
    obtain ⟨k, rfl⟩ : ∃ m, k = m + 1 := ⟨k - 1, by omega⟩
    have hi : i < x.length := by omega
    have hlt : (i : Int) < (x.length : Int) := by omega
    have h0 : (0 : Int) ≤ (i : Int) := by omega
    simp only [spec_l02Has.l0, hlt, h0, if_true, wrap_succ hi hn, ih k (i + 1) (by omega) (by omega), rd_nat x i hi]
    have hm : t ∈ x.drop i ↔ t = x[i] ∨ t ∈ x.drop (i + 1) := by rw [List.drop_eq_getElem_cons hi, List.mem_cons]
    by_cases c : x[i] = t
    · rw [if_pos c, decide_eq_true (hm.2 (Or.inl c.symm))]
    · rw [if_neg c]
      congr 1
      rw [decide_eq_decide, hm]
      exact ⟨Or.inr, fun h => h.resolve_left (fun e => c e.symm)⟩
theorem has_eq (t : Int) (x : List Int) (hn : x.length ≤ 9223372036854775807) (k : Nat) (hk : x.length < k) : spec_l02Has.f k x t = some (decide (t ∈ x)) := by
  unfold spec_l02Has.f
  exact has_loop t x hn x.length k 0 (by omega) hk
theorem comp_facts (zs : List Int) (hs : zs.Pairwise (· ≤ ·)) : ∀ m : Nat, m ≤ zs.length →
    (∀ x, x ∈ Lib.compactUpTo zs.toArray m ↔ x ∈ zs.take m) ∧ (Lib.compactUpTo zs.toArray m).Pairwise (· < ·) ∧ (Lib.compactUpTo zs.toArray m).getLast? = (zs.take m).getLast? := by
  intro m
  induction m with
  | zero => intro _; exact ⟨fun x => by simp [Lib.compactUpTo], by simp [Lib.compactUpTo], by simp [Lib.compactUpTo]⟩
  | succ m ih =>
    intro hm
    obtain ⟨h1, h2, h3⟩ := ih (by omega)
    have hlt : m < zs.length := by omega
    have hg : zs.toArray[m]! = zs[m] := by simp [getElem!_pos, hlt]
    rw [Lib.compactUpTo_succ, hg, take_step zs m hlt]
    by_cases hk : Lib.keeps zs.toArray m = true
    · rw [if_pos hk]
      refine ⟨fun x => by rw [List.mem_append, List.mem_append, h1], ?_, by rw [List.getLast?_append, List.getLast?_append]; simp⟩
      rw [List.pairwise_append]
      refine ⟨h2, by simp, ?_⟩
      intro a ha b hb
      rw [List.mem_singleton.1 hb]
      have ha' := (h1 a).1 ha
      obtain ⟨j, hj, rfl⟩ := List.mem_take_iff_getElem.1 ha'
      have hjm : j < m := by omega
      unfold Lib.keeps at hk
      rw [decide_eq_true_eq] at hk
      rcases hk with hk | hk
      · omega
      · have hg1 : zs.toArray[m - 1]! = zs[m - 1] := by simp [getElem!_pos, show m - 1 < zs.length by omega]
        rw [hg, hg1] at hk
        have p1 := (List.pairwise_iff_getElem.1 hs) (m - 1) m (by omega) hlt (by omega)
        have p2 : zs[j] ≤ zs[m - 1] := by
          by_cases e : j = m - 1
          · subst e; exact Int.le_refl _
          · exact (List.pairwise_iff_getElem.1 hs) j (m - 1) (by omega) (by omega) (by omega)
        show zs[j] < zs[m]
        omega
    · rw [if_neg hk, List.append_nil]
      have hk' : ¬ (m = 0 ∨ zs.toArray[m]! ≠ zs.toArray[m - 1]!) := by
        intro h
        exact hk (by unfold Lib.keeps; exact decide_eq_true h)
      rw [not_or, Decidable.not_not] at hk'
      have hg1 : zs.toArray[m - 1]! = zs[m - 1] := by simp [getElem!_pos, show m - 1 < zs.length by omega]
      rw [hg, hg1] at hk'
      obtain ⟨q0, q1⟩ := hk'
      have hl : (zs.take m).getLast? = some zs[m] := by
        have : zs.take m = zs.take (m - 1) ++ [zs[m - 1]] := by
          have := take_step zs (m - 1) (by omega)
          rwa [show m - 1 + 1 = m by omega] at this
        rw [this, List.getLast?_append]
        simp [q1]
      refine ⟨fun x => ?_, h2, by rw [h3, hl, List.getLast?_append]; simp⟩
      rw [List.mem_append, h1]
      constructor
      · intro h; exact Or.inl h
      · rintro (h | h)
        · exact h
        · rw [List.mem_singleton.1 h]
          exact List.mem_of_getLast? hl
theorem sort_facts (L : List Int) : (L.mergeSort fun x y => decide (x ≤ y)).Pairwise (· ≤ ·) ∧ (∀ x, x ∈ (L.mergeSort fun x y => decide (x ≤ y)) ↔ x ∈ L) := by
  constructor
  · refine (List.pairwise_mergeSort (le := fun x y => decide (x ≤ y)) (fun a b c x y => ?_) (fun a b => ?_) _).imp (fun x => of_decide_eq_true x)
    · have x := of_decide_eq_true x
      have y := of_decide_eq_true y
      exact decide_eq_true (by omega)
    · rw [Bool.or_eq_true, decide_eq_true_eq, decide_eq_true_eq]; omega
  · intro x
    exact List.mem_mergeSort
/-- The numbers once each, rising. -/
def serials (L : List Int) : List Int := Lib.compact (L.mergeSort fun x y => decide (x ≤ y))
theorem serials_facts (L : List Int) : (∀ x, x ∈ serials L ↔ x ∈ L) ∧ (serials L).Pairwise (· < ·) ∧ (serials L).length ≤ L.length := by
  obtain ⟨s1, s2⟩ := sort_facts L
  obtain ⟨c1, c2, c3⟩ := comp_facts _ s1 _ (Nat.le_refl _)
  rw [List.take_of_length_le (Nat.le_refl _)] at c1
  refine ⟨fun x => (c1 x).trans (s2 x), c2, ?_⟩
  have := Lib.compact_length_le (L.mergeSort fun x y => decide (x ≤ y))
  rwa [List.length_mergeSort] at this
theorem rising_last (l : List Int) (h : l.Pairwise (· < ·)) (x : Int) (hl : l.getLast? = some x) : ∀ y ∈ l, y ≤ x := by
  intro y hy
  obtain ⟨i, hi, rfl⟩ := List.mem_iff_getElem.1 hy
  rw [List.getLast?_eq_getElem?] at hl
  obtain ⟨hj, rfl⟩ := List.getElem?_eq_some_iff.1 hl
  by_cases e : i = l.length - 1
  · subst e; exact Int.le_refl _
  · have := (List.pairwise_iff_getElem.1 h) i (l.length - 1) hi hj (by omega)
    omega
theorem nodup_le (a : List Int) : ∀ b : List Int, a.Nodup → (∀ x ∈ a, x ∈ b) → a.length ≤ b.length := by
  induction a with
  | nil => intro b _ _; exact Nat.zero_le _
  | cons x a ih =>
    intro b hn hs
    rw [List.nodup_cons] at hn
    have hx := hs x List.mem_cons_self
    have := ih (b.erase x) hn.2 (fun y hy => by
      have hne : y ≠ x := fun e => hn.1 (e ▸ hy)
      exact (List.mem_erase_of_ne hne).2 (hs y (List.mem_cons_of_mem _ hy)))
    have hl := List.length_erase_of_mem hx
    have hp : 0 < b.length := List.length_pos_of_mem hx
    rw [List.length_cons]
    omega
def ofGame (l : List S75) (g : Int) : List Int := (l.filter fun x => !(x.f1 != g)).map (fun x => x.f0)
theorem ofGame_len (l : List S75) (g : Int) : (ofGame l g).length ≤ l.length := by
  unfold ofGame
  rw [List.length_map]
  exact List.length_filter_le _ _
theorem serials_loop (q : List S75) (hn : q.length ≤ 1000000000) (d : Nat) : ∀ (k i : Nat), i + d = q.length → d < k →
    impl_serialsOf.l0 k ((q.take i).map (fun x => x.f0)) q q.length i = some (serials (q.map (fun x => x.f0))) := by
  induction d with
  | zero =>
    intro k i hd hk
    obtain ⟨k, rfl⟩ : ∃ m, k = m + 1 := ⟨k - 1, by omega⟩
    simp only [impl_serialsOf.l0]
    rw [if_neg (by omega), List.take_of_length_le (by omega)]
    unfold slices_Sort_int_int.f slices_Compact_int_int.f
    rw [if_pos (by rw [List.length_map]; omega), Option.bind_some, if_pos (by rw [List.length_mergeSort, List.length_map]; omega)]
    rfl
  | succ d ih =>
    intro k i hd hk
    obtain ⟨k, rfl⟩ : ∃ m, k = m + 1 := ⟨k - 1, by omega⟩
    have hi : i < q.length := by omega
    have e := ih k (i + 1) (by omega) (by omega)
    rw [take_step q i hi, List.map_append] at e
    simp only [impl_serialsOf.l0]
    rw [if_pos (by omega), if_pos (by omega), if_pos (by omega), if_pos (by rw [List.length_map, List.length_take]; omega), wrap_succ hi (by omega), show rd_T75 q (i : Int) = q[i] from getD_nat _ q i hi]
    exact e
theorem implSerials_eq (l : List S75) (g : Int) (hn : l.length ≤ 1048576) (k : Nat) (hk : l.length < k) : impl_serialsOf.f k l g = some (serials (ofGame l g)) := by
  unfold impl_serialsOf.f impl_notesFor.f
  rw [if_pos (by omega), Option.bind_some]
  have hl := List.length_filter_le (fun x : S75 => !(x.f1 != g)) l
  exact serials_loop (l.filter fun x => !(x.f1 != g)) (by omega) (l.filter fun x => !(x.f1 != g)).length k 0 (by omega) (by omega)
theorem ofGame_snoc (l : List S75) (g : Int) (i : Nat) (hi : i < l.length) : ofGame (l.take (i + 1)) g = ofGame (l.take i) g ++ (if l[i].f1 = g then [l[i].f0] else []) := by
  unfold ofGame
  rw [take_step l i hi, List.filter_append, List.map_append]
  congr 1
  by_cases c : l[i].f1 = g
  · rw [if_pos c]; simp [c]
  · rw [if_neg c]; simp [c]
theorem specCorr_loop (l : List S75) (g : Int) (hn : l.length ≤ 1048576) (d : Nat) : ∀ (k i : Nat) (S : List Int), i + d = l.length → l.length + d < k → S.Nodup → (∀ x, x ∈ S ↔ x ∈ ofGame (l.take i) g) → S.length ≤ i →
    ∃ S' : List Int, spec_Corrections.l0 k g S l l.length i = some (mx 0 (wrap64 ((S'.length : Int) - 1))) ∧ S'.Nodup ∧ (∀ x, x ∈ S' ↔ x ∈ ofGame l g) ∧ S'.length ≤ l.length := by
  induction d with
  | zero =>
    intro k i S hd hk h1 h2 h3
    obtain ⟨k, rfl⟩ : ∃ m, k = m + 1 := ⟨k - 1, by omega⟩
    simp only [spec_Corrections.l0]
    rw [if_neg (by omega)]
    rw [List.take_of_length_le (by omega)] at h2
    exact ⟨S, rfl, h1, h2, by omega⟩
  | succ d ih =>
    intro k i S hd hk h1 h2 h3
    obtain ⟨k, rfl⟩ : ∃ m, k = m + 1 := ⟨k - 1, by omega⟩
    have hi : i < l.length := by omega
    have hs := ofGame_snoc l g i hi
    simp only [spec_Corrections.l0]
    rw [if_pos (by omega), if_pos (by omega), if_pos (by omega), wrap_succ hi (by omega), show rd_T75 l (i : Int) = l[i] from getD_nat _ l i hi]
    by_cases c : l[i].f1 = g
    · rw [if_pos c] at hs
      rw [if_pos c, has_eq _ S (by omega) k (by omega), Option.bind_some]
      by_cases q : l[i].f0 ∈ S
      · rw [if_pos (decide_eq_true q)]
        refine ih k (i + 1) S (by omega) (by omega) h1 (fun x => ?_) (by omega)
        rw [hs, List.mem_append, ← h2]
        constructor
        · intro h; exact Or.inl h
        · rintro (h | h)
          · exact h
          · rw [List.mem_singleton.1 h]; exact q
      · rw [if_neg (by simpa using q), if_pos (by omega)]
        refine ih k (i + 1) (S ++ [l[i].f0]) (by omega) (by omega) ?_ (fun x => ?_) (by simp; omega)
        · rw [List.nodup_append]
          refine ⟨h1, by simp, ?_⟩
          intro a ha b hb e
          rw [List.mem_singleton.1 hb] at e
          exact q (e ▸ ha)
        · rw [hs, List.mem_append, List.mem_append, h2]
    · rw [if_neg c, List.append_nil] at hs
      rw [if_neg c]
      exact ih k (i + 1) S (by omega) (by omega) h1 (fun x => by rw [hs]; exact h2 x) (by omega)
theorem rising_nodup (s : List Int) (h : s.Pairwise (· < ·)) : s.Nodup := h.imp (fun {a b} (hab : a < b) => by omega)
theorem FnExactCorrections : FnExactCorrections_pure := by
  intro l g hl _ _
  unfold maxLen at hl
  refine ⟨2 * l.length + 1, ?_⟩
  unfold laws_FnExactCorrections.f laws_szNoteS.f
  by_cases hb' : 1048576 < l.length
  · rw [if_pos (sz_big (by omega) hb')]; rfl
  · obtain ⟨h1, h2⟩ := sz_small (show l.length ≤ 1048576 by omega)
    have e := laws_toNoteS_eq l (by omega) (2 * l.length + 1) (by omega)
    generalize hm : l.map laws_toNoteS_c = m at e
    have hml : m.length = l.length := by rw [← hm]; simp
    obtain ⟨S, q1, s1, s2, s3⟩ := specCorr_loop m g (by omega) m.length (2 * l.length + 1) 0 [] (by omega) (by omega) List.nodup_nil (fun x => by simp [ofGame]) (by simp)
    have q1' : spec_Corrections.f (2 * l.length + 1) m g = some (mx 0 (wrap64 ((S.length : Int) - 1))) := q1
    have q2 : impl_Corrections.f (2 * l.length + 1) m g = some (mx 0 (wrap64 ((S.length : Int) - 1))) := by
      unfold impl_Corrections.f
      rw [implSerials_eq m g (by omega) _ (by omega), Option.bind_some]
      obtain ⟨f1, f2, f3⟩ := serials_facts (ofGame m g)
      have a1 := nodup_le S (serials (ofGame m g)) s1 (fun x hx => (f1 x).2 ((s2 x).1 hx))
      have a2 := nodup_le (serials (ofGame m g)) S (rising_nodup _ f2) (fun x hx => (s2 x).2 ((f1 x).1 hx))
      have hlen : (serials (ofGame m g)).length = S.length := by omega
      rw [hlen]
      congr 1
      unfold mx
      split <;> split <;> omega
    have q3 := laws_eqNoteS_eq m (by omega) (2 * l.length + 1) (by omega)
    rw [if_neg h1]
    simp only [Option.bind_some, h1, if_false, e, q1', q2, q3, if_true]

end Go.Proofs.Ytmifcjkbjjnelaa.Pure
