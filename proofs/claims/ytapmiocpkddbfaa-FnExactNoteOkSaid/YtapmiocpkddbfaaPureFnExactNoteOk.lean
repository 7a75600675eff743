/- Whatever the number of teams, the games and the note: NoteOk of the program and of the reference answer alike, and the games stay as they were; no condition beyond the form's own reach. -/
import Derived.Test.YtapmiocpkddbfaaSayFnExactNoteOk
import Derived.Test.YtapmiocpkddbfaaPureKit
namespace Go.Proofs.Ytapmiocpkddbfaa.Pure
open Go.RowKit Go.Proofs.Ytapmiocpkddbfaa.MFnExactNoteOk Go.Proofs.Ytapmiocpkddbfaa.PureKit Go.Proofs.YtapmiocpkddbfaaW.PrintWords Go.Proofs.YtapmiocpkddbfaaW.PrintLast
set_option linter.unusedSimpArgs false
set_option linter.unusedVariables false
theorem in_within (n lo hi : Int) : spec_l01In.f n lo hi = some (decide (lo ≤ n ∧ n ≤ hi)) ∧ impl_within.f n lo hi = some (decide (lo ≤ n ∧ n ≤ hi)) := by
  unfold spec_l01In.f impl_within.f
  by_cases h : lo ≤ n <;> simp [h]
theorem sz_big {n : Nat} (h : n ≤ 9223372036854775807) (hb : 1048576 < n) : wrap64 (1048576 - (n : Int)) < 0 := by rw [wrap_id (by omega) (by omega)]; omega
theorem sz_small {n : Nat} (hb : n ≤ 1048576) : ¬ wrap64 (1048576 - (n : Int)) < 0 ∧ wrap64 (1048576 - (n : Int)) = 1048576 - (n : Int) := by
  have h := wrap_id (x := 1048576 - (n : Int)) (by omega) (by omega)
  rw [h]; exact ⟨by omega, rfl⟩
def laws_toGameS_c (x : S54) : S61 := ⟨x.f0, x.f1, x.f2, x.f3, x.f4⟩
theorem laws_toGameS_loop (x0 : List S54) (hn : x0.length ≤ 9223372036854775807) (d : Nat) : ∀ (k i : Nat) (acc : List S61), acc.length = x0.length → acc.take i = (x0.take i).map laws_toGameS_c → i + d = x0.length → d < k →
    laws_toGameS.l0 k x0 acc i = some (x0.map laws_toGameS_c) := by
  induction d with
  | zero =>
    intro k i acc hl ht hd hk
    obtain ⟨k, rfl⟩ : ∃ m, k = m + 1 := ⟨k - 1, by omega⟩
    simp only [laws_toGameS.l0]
    rw [if_neg (by omega)]
    rw [List.take_of_length_le (by omega), List.take_of_length_le (by omega)] at ht
    rw [ht]
  | succ d ih =>
    intro k i acc hl ht hd hk
    obtain ⟨k, rfl⟩ : ∃ m, k = m + 1 := ⟨k - 1, by omega⟩
    have hi : i < x0.length := by omega
    simp only [laws_toGameS.l0, laws_toGame.f, Option.bind_some]
    rw [if_pos (by omega), if_pos (by omega), if_pos (by omega), wrap_succ hi hn, show rd_T54 x0 (i : Int) = x0[i] from getD_nat _ x0 i hi, Int.toNat_natCast]
    exact ih k (i + 1) _ (by simp [hl]) (set_copy laws_toGameS_c x0 acc i hi hl ht) (by omega) (by omega)
theorem laws_toGameS_eq (x0 : List S54) (hn : x0.length ≤ 7036874417766) (k : Nat) (hk : x0.length < k) : laws_toGameS.f k x0 = some (x0.map laws_toGameS_c) := by
  unfold laws_toGameS.f
  rw [if_pos (by omega), if_pos (by omega)]
  exact laws_toGameS_loop x0 (by omega) x0.length k 0 _ (by simp) (by simp) (by omega) hk
theorem laws_eqGameS_loop (x : List S61) (hn : x.length ≤ 9223372036854775807) (d : Nat) : ∀ (k i : Nat), i + d = x.length → d < k → laws_eqGameS.l0 k x x i = some true := by
  induction d with
  | zero =>
    intro k i hd hk
    obtain ⟨k, rfl⟩ : ∃ m, k = m + 1 := ⟨k - 1, by omega⟩
    simp only [laws_eqGameS.l0]
    rw [if_neg (by omega)]
  | succ d ih =>
    intro k i hd hk
    obtain ⟨k, rfl⟩ : ∃ m, k = m + 1 := ⟨k - 1, by omega⟩
    simp only [laws_eqGameS.l0, laws_eqGame.f]
    rw [if_pos (by omega), if_pos (by omega), if_pos (by omega), wrap_succ (show i < x.length by omega) hn]
    simp only [if_true, Option.bind_some]
    exact ih k (i + 1) (by omega) (by omega)
theorem laws_eqGameS_eq (x : List S61) (hn : x.length ≤ 9223372036854775807) (k : Nat) (hk : x.length < k) : laws_eqGameS.f k x x = some true := by
  unfold laws_eqGameS.f
  rw [if_pos rfl]
  exact laws_eqGameS_loop x hn x.length k 0 (by omega) hk
def gameOk (n a b c d e : Int) : Bool := decide (2 ≤ n ∧ n ≤ 8 ∧ 0 ≤ a ∧ a ≤ n - 1 ∧ 0 ≤ b ∧ b ≤ n - 1 ∧ a ≠ b ∧ 0 ≤ e ∧ e ≤ 4 ∧ ((e = 1 ∧ 0 ≤ c ∧ c ≤ 99 ∧ 0 ≤ d ∧ d ≤ 99) ∨ (e ≠ 1 ∧ c = 0 ∧ d = 0)))
theorem specGameOk_j (k : Nat) (x : Bool) (a b c d e : Int) : spec_GameOk.j0 (k + 1) x a b c d e = some (!x && decide ((e = 1 ∧ 0 ≤ c ∧ c ≤ 99 ∧ 0 ≤ d ∧ d ≤ 99) ∨ (e ≠ 1 ∧ c = 0 ∧ d = 0))) := by
  simp only [spec_GameOk.j0, (in_within _ _ _).1, Option.bind_some]
  cases x
  · by_cases he : e = 1
    · by_cases hc : 0 ≤ c ∧ c ≤ 99 <;> simp [he, hc]
      omega
    · by_cases hc : c = 0 <;> simp [he, hc]
      rw [Bool.eq_iff_iff]; simp
  · simp
theorem specGameOk_eq (n a b c d e : Int) (k : Nat) (hn : -9223372036854775808 ≤ n) (hk : 0 < k) : spec_GameOk.f k n a b c d e = some (gameOk n a b c d e) := by
  obtain ⟨k, rfl⟩ : ∃ m, k = m + 1 := ⟨k - 1, by omega⟩
  unfold spec_GameOk.f gameOk
  simp only [(in_within _ _ _).1, Option.bind_some, specGameOk_j]
  by_cases h1 : 2 ≤ n ∧ n ≤ 8
  · have hw : wrap64 (n - 1) = n - 1 := wrap_id (by omega) (by omega)
    rw [hw]
    by_cases h2 : 0 ≤ a ∧ a ≤ n - 1 <;> by_cases h3 : 0 ≤ b ∧ b ≤ n - 1 <;> by_cases h4 : a = b <;> by_cases h5 : 0 ≤ e ∧ e ≤ 4 <;> simp [h1, h2, h3, h4, h5]
    all_goals (try omega)
  · simp [h1]
    omega
theorem implGameOk_j (n m a b c d e : Int) (k : Nat) (hn : -9223372036854775808 ≤ n) (hk : 0 < k) : impl_GameOk.j0 k n m a b c d e = some (decide (2 ≤ n ∧ n ≤ 8 ∧ a ≠ b ∧ 0 ≤ a ∧ a ≤ n - 1 ∧ 0 ≤ b ∧ b ≤ n - 1 ∧ 0 ≤ e ∧ e ≤ 4 ∧ 0 ≤ c ∧ c ≤ m ∧ 0 ≤ d ∧ d ≤ m)) := by
  obtain ⟨k, rfl⟩ : ∃ m, k = m + 1 := ⟨k - 1, by omega⟩
  simp only [impl_GameOk.j0, (in_within _ _ _).2, Option.bind_some]
  by_cases h1 : 2 ≤ n ∧ n ≤ 8
  · have hw : wrap64 (n - 1) = n - 1 := wrap_id (by omega) (by omega)
    rw [hw]
    by_cases h4 : a = b
    · simp [h1, h4]
    · by_cases h2 : 0 ≤ a ∧ a ≤ n - 1
      · by_cases h3 : 0 ≤ b ∧ b ≤ n - 1
        · by_cases h5 : 0 ≤ e ∧ e ≤ 4
          · by_cases h6 : 0 ≤ c ∧ c ≤ m <;> simp [h1, h2, h3, h4, h5, h6]
            omega
          · simp [h1, h2, h3, h4, h5]; omega
        · simp [h1, h2, h3, h4]; omega
      · simp [h1, h2, h4]; omega
  · simp [h1]; omega
theorem implGameOk_eq (n a b c d e : Int) (k : Nat) (hn : -9223372036854775808 ≤ n) (hk : 0 < k) : impl_GameOk.f k n a b c d e = some (gameOk n a b c d e) := by
  unfold impl_GameOk.f gameOk
  by_cases he : e = 1
  · rw [if_pos he, implGameOk_j n 99 a b c d e k hn hk]
    congr 1
    rw [decide_eq_decide]
    omega
  · rw [if_neg he, implGameOk_j n 0 a b c d e k hn hk]
    congr 1
    rw [decide_eq_decide]
    omega
theorem specGameOf_loop (a b : Int) (l : List S61) (hn : l.length ≤ 9223372036854775807) (d : Nat) : ∀ (k i : Nat), i + d = l.length → d < k → (∀ j z, j < i → l[j]? = some z → ((z.f0 == a) && (z.f1 == b)) = false) →
    spec_GameOf.l0 k a b l l.length i = some (idxP (fun x => (x.f0 == a) && (x.f1 == b)) l) := by
  induction d with
  | zero =>
    intro k i hd hk hf
    obtain ⟨k, rfl⟩ : ∃ m, k = m + 1 := ⟨k - 1, by omega⟩
    simp only [spec_GameOf.l0]
    rw [if_neg (by omega), idxP_miss _ l (fun j z hj hz => hf j z (by omega) hz)]
  | succ d ih =>
    intro k i hd hk hf
    obtain ⟨k, rfl⟩ : ∃ m, k = m + 1 := ⟨k - 1, by omega⟩
    have hi : i < l.length := by omega
    have hlt : (i : Int) < (l.length : Int) := by omega
    have h0 : (0 : Int) ≤ (i : Int) := by omega
    have hy : l[i]? = some l[i] := List.getElem?_eq_getElem hi
    have hr : rd_T61 l (i : Int) = l[i] := getD_nat _ l i hi
    simp only [spec_GameOf.l0, hlt, h0, if_true, wrap_succ hi hn, hr]
    by_cases c : (l[i].f0 == a && l[i].f1 == b) = true
    · rw [idxP_hit _ l i _ hy c hf]
      simp only [Bool.and_eq_true, beq_iff_eq] at c
      simp [c]
    · have c' : (l[i].f0 == a && l[i].f1 == b) = false := by simpa using c
      have e := ih k (i + 1) (by omega) (by omega) (fun j z hj hz => by
        by_cases ej : j = i
        · subst ej; rw [hy] at hz; cases hz; exact c'
        · exact hf j z (by omega) hz)
      rw [e]
      repeat' split
      all_goals first | rfl | (exfalso; simp_all)
theorem specGameOf_eq (a b : Int) (l : List S61) (hn : l.length ≤ 9223372036854775807) (k : Nat) (hk : l.length < k) : spec_GameOf.f k l a b = some (idxP (fun x => (x.f0 == a) && (x.f1 == b)) l) := by
  unfold spec_GameOf.f
  exact specGameOf_loop a b l hn l.length k 0 (by omega) hk (fun j z hj => absurd hj (Nat.not_lt_zero _))
theorem idxP_neg {α : Type} (p : α → Bool) (l : List α) : idxP p l < 0 ↔ ∀ (j : Nat) (z : α), l[j]? = some z → p z = false := by
  unfold idxP
  cases h : l.findIdx? p with
  | none =>
    rw [List.findIdx?_eq_none_iff] at h
    exact ⟨fun _ j z hz => h z (List.mem_of_getElem? hz), fun _ => by simp⟩
  | some i =>
    rw [List.findIdx?_eq_some_iff_getElem] at h
    obtain ⟨hi, hp, _⟩ := h
    constructor
    · intro hneg; simp at hneg; omega
    · intro hall
      have := hall i _ (List.getElem?_eq_getElem hi)
      rw [hp] at this; cases this
theorem idxP_at {α : Type} (p : α → Bool) (l : List α) (i : Nat) (y : α) (hy : l[i]? = some y) (hp : p y = true) : (idxP p l = i) ↔ idxP p (l.take i) < 0 := by
  have hi : i < l.length := (List.getElem?_eq_some_iff.1 hy).1
  rw [idxP_neg]
  constructor
  · intro h j z hz
    by_cases hj : j < i
    · rw [List.getElem?_take_of_lt hj] at hz
      unfold idxP at h
      cases hf : l.findIdx? p with
      | none => rw [hf] at h; simp at h
      | some m =>
        rw [hf] at h
        have hm : m = i := by have h2 : (m : Int) = (i : Int) := h; omega
        subst hm
        rw [List.findIdx?_eq_some_iff_getElem] at hf
        obtain ⟨_, _, hb⟩ := hf
        have hjl : j < l.length := by omega
        rw [List.getElem?_eq_getElem hjl] at hz
        cases hz
        exact Bool.eq_false_iff.mpr (hb j hj)
    · rw [List.getElem?_take_eq_none (by omega)] at hz; cases hz
  · intro h
    exact idxP_hit p l i y hy hp (fun j z hj hz => h j z (by rw [List.getElem?_take_of_lt hj]; exact hz))
def pairP (a b : Int) (x : S61) : Bool := (x.f0 == a) && (x.f1 == b)
/-- The games from i on (d of them): each valid, none of them played before. -/
def seasonFrom (n : Int) (l : List S61) : Nat → Nat → Bool
  | _, 0 => true
  | i, d + 1 => gameOk n (rd_T61 l i).f0 (rd_T61 l i).f1 (rd_T61 l i).f2 (rd_T61 l i).f3 (rd_T61 l i).f4 && (decide (idxP (pairP (rd_T61 l i).f0 (rd_T61 l i).f1) (l.take i) < 0) && seasonFrom n l (i + 1) d)
def seasonOk (n : Int) (l : List S61) : Bool := decide (l.length ≤ 60) && seasonFrom n l 0 l.length
theorem specSeason_loop (n : Int) (hw : -9223372036854775808 ≤ n) (l : List S61) (hn : l.length ≤ 9223372036854775807) (d : Nat) : ∀ (k i : Nat), i + d = l.length → l.length + d < k →
    spec_SeasonOk.l0 k n l l l.length i = some (seasonFrom n l i d) := by
  induction d with
  | zero =>
    intro k i hd hk
    obtain ⟨k, rfl⟩ : ∃ m, k = m + 1 := ⟨k - 1, by omega⟩
    simp only [spec_SeasonOk.l0, seasonFrom]
    rw [if_neg (by omega)]
  | succ d ih =>
    intro k i hd hk
    obtain ⟨k, rfl⟩ : ∃ m, k = m + 1 := ⟨k - 1, by omega⟩
    have hi : i < l.length := by omega
    have hlt : (i : Int) < (l.length : Int) := by omega
    have h0 : (0 : Int) ≤ (i : Int) := by omega
    have hy : l[i]? = some (rd_T61 l i) := by rw [List.getElem?_eq_getElem hi]; congr 1; exact (getD_nat _ l i hi).symm
    simp only [spec_SeasonOk.l0, hlt, h0, if_true, wrap_succ hi hn, specGameOk_eq n _ _ _ _ _ k hw (by omega), specGameOf_eq _ _ l hn k (by omega), Option.bind_some, ih k (i + 1) (by omega) (by omega), seasonFrom]
    have ha := idxP_at (pairP (rd_T61 l i).f0 (rd_T61 l i).f1) l i _ hy (by simp [pairP])
    generalize gameOk n (rd_T61 l i).f0 (rd_T61 l i).f1 (rd_T61 l i).f2 (rd_T61 l i).f3 (rd_T61 l i).f4 = g
    change (if g = true then (if idxP (pairP _ _) l = (i : Int) then _ else _) else _) = _
    cases g with
    | false => rfl
    | true =>
      rw [if_pos rfl]
      by_cases c : idxP (pairP (rd_T61 l i).f0 (rd_T61 l i).f1) l = (i : Int)
      · rw [if_pos c, decide_eq_true (ha.1 c)]; rfl
      · rw [if_neg c, decide_eq_false (fun h => c (ha.2 h))]; rfl
theorem implSeason_loop (n : Int) (hw : -9223372036854775808 ≤ n) (l : List S61) (hn : l.length ≤ 9223372036854775807) (d : Nat) : ∀ (k i : Nat), i + d = l.length → d + 1 < k →
    impl_SeasonOk.l0 k n l l l.length i = some (seasonFrom n l i d && decide (l.length ≤ 60)) := by
  induction d with
  | zero =>
    intro k i hd hk
    obtain ⟨k, rfl⟩ : ∃ m, k = m + 1 := ⟨k - 1, by omega⟩
    simp only [impl_SeasonOk.l0, seasonFrom]
    rw [if_neg (by omega), Bool.true_and]
    congr 1
    rw [decide_eq_decide]; omega
  | succ d ih =>
    intro k i hd hk
    obtain ⟨k, rfl⟩ : ∃ m, k = m + 1 := ⟨k - 1, by omega⟩
    have hi : i < l.length := by omega
    have hlt : (i : Int) < (l.length : Int) := by omega
    have hle : (i : Int) ≤ (l.length : Int) := by omega
    have h0 : (0 : Int) ≤ (i : Int) := by omega
    simp only [impl_SeasonOk.l0, hlt, hle, h0, if_true, wrap_succ hi hn, implGameOk_eq n _ _ _ _ _ k hw (by omega), impl_GameOf.f, Option.bind_some, ih k (i + 1) (by omega) (by omega), seasonFrom, Int.toNat_natCast]
    generalize gameOk n (rd_T61 l i).f0 (rd_T61 l i).f1 (rd_T61 l i).f2 (rd_T61 l i).f3 (rd_T61 l i).f4 = g
    change (if g = true then (if idxP (pairP _ _) (l.take i) ≥ 0 then _ else _) else _) = _
    cases g with
    | false => rfl
    | true =>
      rw [if_pos rfl]
      by_cases c : idxP (pairP (rd_T61 l i).f0 (rd_T61 l i).f1) (l.take i) < 0
      · rw [if_neg (by omega), decide_eq_true c]; rfl
      · rw [if_pos (by omega), decide_eq_false c]; rfl
theorem specSeason_eq (n : Int) (hw : -9223372036854775808 ≤ n) (l : List S61) (hn : l.length ≤ 9223372036854775807) (k : Nat) (hk : 2 * l.length < k) : spec_SeasonOk.f k n l = some (seasonOk n l) := by
  unfold spec_SeasonOk.f seasonOk
  by_cases h : (l.length : Int) > 60
  · rw [if_pos h, decide_eq_false (by omega)]; rfl
  · rw [if_neg h, decide_eq_true (by omega)]
    exact specSeason_loop n hw l hn l.length k 0 (by omega) (by omega)
theorem implSeason_eq (n : Int) (hw : -9223372036854775808 ≤ n) (l : List S61) (hn : l.length ≤ 9223372036854775807) (k : Nat) (hk : l.length + 1 < k) : impl_SeasonOk.f k n l = some (seasonOk n l) := by
  unfold impl_SeasonOk.f seasonOk
  rw [Bool.and_comm]
  exact implSeason_loop n hw l hn l.length k 0 (by omega) (by omega)
def noteFits (n : Int) (l : List S61) (s g h a c d e : Int) : Bool :=
  decide (1 ≤ s ∧ s ≤ 100000 ∧ 0 ≤ g ∧ g ≤ (l.length : Int) - 1) && (gameOk n h a c d e && (!(e == 0) && decide (h = (rd_T61 l g).f0 ∧ a = (rd_T61 l g).f1)))
theorem specNote_eq (n : Int) (hw : -9223372036854775808 ≤ n) (l : List S61) (hn : l.length ≤ 9223372036854775807) (s g h a c d e : Int) (k : Nat) (hk : 0 < k) : spec_l05Note.f k n l s g h a c d e = some (noteFits n l s g h a c d e) := by
  have hwl : wrap64 ((l.length : Int) - 1) = (l.length : Int) - 1 := wrap_id (by omega) (by omega)
  unfold spec_l05Note.f noteFits
  simp only [(in_within _ _ _).1, Option.bind_some, hwl, specGameOk_eq n _ _ _ _ _ k hw hk, spec_IsOpen.f]
  by_cases h1 : 1 ≤ s ∧ s ≤ 100000
  · by_cases h2 : 0 ≤ g ∧ g ≤ (l.length : Int) - 1
    · have h3 : g < (l.length : Int) := by omega
      rw [if_pos (decide_eq_true h1), if_pos (decide_eq_true h2), decide_eq_true (show 1 ≤ s ∧ s ≤ 100000 ∧ 0 ≤ g ∧ g ≤ (l.length : Int) - 1 from ⟨h1.1, h1.2, h2.1, h2.2⟩)]
      generalize gameOk n h a c d e = q
      cases q with
      | false => rfl
      | true =>
        rw [if_pos rfl]
        cases (e == 0) with
        | true => rfl
        | false =>
          rw [if_neg (by simp), if_pos h2.1, if_pos h3]
          by_cases c1 : h = (rd_T61 l g).f0
          · rw [if_pos c1]
            congr 1
            rw [Bool.eq_iff_iff]
            simp [c1]
          · rw [if_neg c1]
            simp [c1]
    · rw [if_pos (decide_eq_true h1), if_neg (by simpa using h2), decide_eq_false (fun h => h2 ⟨h.2.2.1, h.2.2.2⟩)]
      rfl
  · rw [if_neg (by simpa using h1), decide_eq_false (fun h => h1 ⟨h.1, h.2.1⟩)]
    rfl
theorem implNote_eq (n : Int) (hw : -9223372036854775808 ≤ n) (l : List S61) (hn : l.length ≤ 9223372036854775807) (s g h a c d e : Int) (k : Nat) (hk : 1 < k) : impl_noteFits.f k n l s g h a c d e = some (noteFits n l s g h a c d e) := by
  have hwl : wrap64 ((l.length : Int) - 1) = (l.length : Int) - 1 := wrap_id (by omega) (by omega)
  obtain ⟨k, rfl⟩ : ∃ m, k = m + 1 := ⟨k - 1, by omega⟩
  unfold impl_noteFits.f noteFits
  simp only [(in_within _ _ _).2, Option.bind_some, hwl, impl_noteFits.j0, implGameOk_eq n _ _ _ _ _ k hw (by omega), impl_IsOpen.f]
  by_cases h1 : 1 ≤ s ∧ s ≤ 100000
  · by_cases h2 : 0 ≤ g ∧ g ≤ (l.length : Int) - 1
    · have h3 : g < (l.length : Int) := by omega
      rw [if_pos (decide_eq_true h1), decide_eq_true h2, decide_eq_true (show 1 ≤ s ∧ s ≤ 100000 ∧ 0 ≤ g ∧ g ≤ (l.length : Int) - 1 from ⟨h1.1, h1.2, h2.1, h2.2⟩), if_neg (by simp), if_pos h2.1, if_pos h3]
      generalize gameOk n h a c d e = q
      cases q with
      | false => rfl
      | true =>
        rw [if_pos rfl]
        by_cases c1 : h = (rd_T61 l g).f0
        · rw [if_pos c1]
          by_cases c2 : a = (rd_T61 l g).f1
          · rw [if_pos c2, decide_eq_true ⟨c1, c2⟩]
            simp
          · rw [if_neg c2, decide_eq_false (fun h => c2 h.2)]
            simp
        · rw [if_neg c1, decide_eq_false (fun h => c1 h.1)]
          simp
    · rw [if_pos (decide_eq_true h1), decide_eq_false h2, if_pos (by simp), decide_eq_false (fun h => h2 ⟨h.2.2.1, h.2.2.2⟩)]
      rfl
  · rw [if_neg (by simpa using h1), if_pos trivial, decide_eq_false (fun h => h1 ⟨h.1, h.2.1⟩)]
    rfl
theorem FnExactNoteOk : FnExactNoteOk_pure := by
  intro n l s g h a c d e hw hl _ _ _ _ _ _ _ _
  have hb := (wf_bd hw).1
  unfold maxLen at hl
  refine ⟨2 * l.length + 2, ?_⟩
  unfold laws_FnExactNoteOk.f laws_szGameS.f
  by_cases hb' : 1048576 < l.length
  · rw [if_pos (sz_big (by omega) hb')]; rfl
  · obtain ⟨h1, h2⟩ := sz_small (show l.length ≤ 1048576 by omega)
    have e' := laws_toGameS_eq l (by omega) (2 * l.length + 2) (by omega)
    generalize hm : l.map laws_toGameS_c = m at e'
    have hml : m.length = l.length := by rw [← hm]; simp
    have e1 := specSeason_eq n hb m (by omega) (2 * l.length + 2) (by omega)
    have e2 := implSeason_eq n hb m (by omega) (2 * l.length + 2) (by omega)
    have f1 := specNote_eq n hb m (by omega) s g h a c d e (2 * l.length + 2) (by omega)
    have f2 := implNote_eq n hb m (by omega) s g h a c d e (2 * l.length + 2) (by omega)
    have q1 : spec_NoteOk.f (2 * l.length + 2) n m s g h a c d e = some (seasonOk n m && noteFits n m s g h a c d e) := by
      unfold spec_NoteOk.f
      rw [e1, f1]
      cases seasonOk n m <;> rfl
    have q2 : impl_NoteOk.f (2 * l.length + 2) n m s g h a c d e = some (seasonOk n m && noteFits n m s g h a c d e) := by
      unfold impl_NoteOk.f
      rw [e2, f2]
      cases seasonOk n m <;> rfl
    have eq := laws_eqGameS_eq m (by omega) (2 * l.length + 2) (by omega)
    rw [if_neg h1]
    simp only [Option.bind_some, h1, if_false, e', laws_toNote.f, laws_toGame.f, q1, q2, eq, if_true, bne_self_eq_false, Bool.false_eq_true]

end Go.Proofs.Ytapmiocpkddbfaa.Pure
