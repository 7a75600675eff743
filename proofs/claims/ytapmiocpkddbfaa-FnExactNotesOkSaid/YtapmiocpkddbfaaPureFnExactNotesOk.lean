/- Whatever the number of teams, the games and the notes: NotesOk of the program and of the reference answer alike, and games and notes stay as they were; no condition beyond the form's own reach. -/
import Derived.Test.YtapmiocpkddbfaaSayFnExactNotesOk
import Derived.Test.YtapmiocpkddbfaaPureKit
namespace Go.Proofs.Ytapmiocpkddbfaa.Pure
open Go.RowKit Go.Proofs.Ytapmiocpkddbfaa.MFnExactNotesOk Go.Proofs.Ytapmiocpkddbfaa.PureKit Go.Proofs.YtapmiocpkddbfaaW.PrintWords Go.Proofs.YtapmiocpkddbfaaW.PrintLast
set_option linter.unusedSimpArgs false
set_option linter.unusedVariables false
theorem in_within (n lo hi : Int) : spec_l01In.f n lo hi = some (decide (lo ≤ n ∧ n ≤ hi)) ∧ impl_within.f n lo hi = some (decide (lo ≤ n ∧ n ≤ hi)) := by
  unfold spec_l01In.f impl_within.f
  by_cases h : lo ≤ n <;> simp [h]
theorem sz_big {n : Nat} (h : n ≤ 9223372036854775807) (hb : 1048576 < n) : wrap64 (1048576 - (n : Int)) < 0 := by rw [wrap_id (by omega) (by omega)]; omega
theorem sz_small {n : Nat} (hb : n ≤ 1048576) : ¬ wrap64 (1048576 - (n : Int)) < 0 ∧ wrap64 (1048576 - (n : Int)) = 1048576 - (n : Int) := by
  have h := wrap_id (x := 1048576 - (n : Int)) (by omega) (by omega)
  rw [h]; exact ⟨by omega, rfl⟩
def laws_toGameS_c (x : S54) : S61 := ⟨x.f0, x.f1, x.f2, x.f3, x.f4⟩
theorem laws_toGameS_loop (x0 : List S54) (hn : x0.length ≤ 9223372036854775807) (d : Nat) : ∀ (k i : Nat) (acc : List S61), acc.length = x0.length → acc.take i = (x0.take i).map laws_toGameS_c → i + d = x0.length → d < k →
    laws_toGameS.l0 k x0 acc i = some (x0.map laws_toGameS_c) := by
  induction d with
  | zero =>
    intro k i acc hl ht hd hk
    obtain ⟨k, rfl⟩ : ∃ m, k = m + 1 := ⟨k - 1, by omega⟩
    simp only [laws_toGameS.l0]
    rw [if_neg (by omega)]
    rw [List.take_of_length_le (by omega), List.take_of_length_le (by omega)] at ht
    rw [ht]
  | succ d ih =>
    intro k i acc hl ht hd hk
    obtain ⟨k, rfl⟩ : ∃ m, k = m + 1 := ⟨k - 1, by omega⟩
    have hi : i < x0.length := by omega
    simp only [laws_toGameS.l0, laws_toGame.f, Option.bind_some]
    rw [if_pos (by omega), if_pos (by omega), if_pos (by omega), wrap_succ hi hn, show rd_T54 x0 (i : Int) = x0[i] from getD_nat _ x0 i hi, Int.toNat_natCast]
    exact ih k (i + 1) _ (by simp [hl]) (set_copy laws_toGameS_c x0 acc i hi hl ht) (by omega) (by omega)
theorem laws_toGameS_eq (x0 : List S54) (hn : x0.length ≤ 7036874417766) (k : Nat) (hk : x0.length < k) : laws_toGameS.f k x0 = some (x0.map laws_toGameS_c) := by
  unfold laws_toGameS.f
  rw [if_pos (by omega), if_pos (by omega)]
  exact laws_toGameS_loop x0 (by omega) x0.length k 0 _ (by simp) (by simp) (by omega) hk
theorem laws_eqGameS_loop (x : List S61) (hn : x.length ≤ 9223372036854775807) (d : Nat) : ∀ (k i : Nat), i + d = x.length → d < k → laws_eqGameS.l0 k x x i = some true := by
  induction d with
  | zero =>
    intro k i hd hk
    obtain ⟨k, rfl⟩ : ∃ m, k = m + 1 := ⟨k - 1, by omega⟩
    simp only [laws_eqGameS.l0]
    rw [if_neg (by omega)]
  | succ d ih =>
    intro k i hd hk
    obtain ⟨k, rfl⟩ : ∃ m, k = m + 1 := ⟨k - 1, by omega⟩
    simp only [laws_eqGameS.l0, laws_eqGame.f]
    rw [if_pos (by omega), if_pos (by omega), if_pos (by omega), wrap_succ (show i < x.length by omega) hn]
    simp only [if_true, Option.bind_some]
    exact ih k (i + 1) (by omega) (by omega)
theorem laws_eqGameS_eq (x : List S61) (hn : x.length ≤ 9223372036854775807) (k : Nat) (hk : x.length < k) : laws_eqGameS.f k x x = some true := by
  unfold laws_eqGameS.f
  rw [if_pos rfl]
  exact laws_eqGameS_loop x hn x.length k 0 (by omega) hk
def laws_toNoteS_c (x : S56) : S63 := ⟨x.f0, x.f1, (⟨x.f2.f0, x.f2.f1, x.f2.f2, x.f2.f3, x.f2.f4⟩ : S61)⟩
theorem laws_toNoteS_loop (x0 : List S56) (hn : x0.length ≤ 9223372036854775807) (d : Nat) : ∀ (k i : Nat) (acc : List S63), acc.length = x0.length → acc.take i = (x0.take i).map laws_toNoteS_c → i + d = x0.length → d < k →
    laws_toNoteS.l0 k x0 acc i = some (x0.map laws_toNoteS_c) := by
  induction d with
  | zero =>
    intro k i acc hl ht hd hk
    obtain ⟨k, rfl⟩ : ∃ m, k = m + 1 := ⟨k - 1, by omega⟩
    simp only [laws_toNoteS.l0]
    rw [if_neg (by omega)]
    rw [List.take_of_length_le (by omega), List.take_of_length_le (by omega)] at ht
    rw [ht]
  | succ d ih =>
    intro k i acc hl ht hd hk
    obtain ⟨k, rfl⟩ : ∃ m, k = m + 1 := ⟨k - 1, by omega⟩
    have hi : i < x0.length := by omega
    simp only [laws_toNoteS.l0, laws_toNote.f, laws_toGame.f, Option.bind_some]
    rw [if_pos (by omega), if_pos (by omega), if_pos (by omega), wrap_succ hi hn, show rd_T56 x0 (i : Int) = x0[i] from getD_nat _ x0 i hi, Int.toNat_natCast]
    exact ih k (i + 1) _ (by simp [hl]) (set_copy laws_toNoteS_c x0 acc i hi hl ht) (by omega) (by omega)
theorem laws_toNoteS_eq (x0 : List S56) (hn : x0.length ≤ 5026338869833) (k : Nat) (hk : x0.length < k) : laws_toNoteS.f k x0 = some (x0.map laws_toNoteS_c) := by
  unfold laws_toNoteS.f
  rw [if_pos (by omega), if_pos (by omega)]
  exact laws_toNoteS_loop x0 (by omega) x0.length k 0 _ (by simp) (by simp) (by omega) hk
theorem laws_eqNoteS_loop (x : List S63) (hn : x.length ≤ 9223372036854775807) (d : Nat) : ∀ (k i : Nat), i + d = x.length → d < k → laws_eqNoteS.l0 k x x i = some true := by
  induction d with
  | zero =>
    intro k i hd hk
    obtain ⟨k, rfl⟩ : ∃ m, k = m + 1 := ⟨k - 1, by omega⟩
    simp only [laws_eqNoteS.l0]
    rw [if_neg (by omega)]
  | succ d ih =>
    intro k i hd hk
    obtain ⟨k, rfl⟩ : ∃ m, k = m + 1 := ⟨k - 1, by omega⟩
    simp only [laws_eqNoteS.l0, laws_eqNote.f, laws_eqGame.f]
    rw [if_pos (by omega), if_pos (by omega), if_pos (by omega), wrap_succ (show i < x.length by omega) hn]
    simp only [if_true, Option.bind_some]
    exact ih k (i + 1) (by omega) (by omega)
theorem laws_eqNoteS_eq (x : List S63) (hn : x.length ≤ 9223372036854775807) (k : Nat) (hk : x.length < k) : laws_eqNoteS.f k x x = some true := by
  unfold laws_eqNoteS.f
  rw [if_pos rfl]
  exact laws_eqNoteS_loop x hn x.length k 0 (by omega) hk
def gameOk (n a b c d e : Int) : Bool := decide (2 ≤ n ∧ n ≤ 8 ∧ 0 ≤ a ∧ a ≤ n - 1 ∧ 0 ≤ b ∧ b ≤ n - 1 ∧ a ≠ b ∧ 0 ≤ e ∧ e ≤ 4 ∧ ((e = 1 ∧ 0 ≤ c ∧ c ≤ 99 ∧ 0 ≤ d ∧ d ≤ 99) ∨ (e ≠ 1 ∧ c = 0 ∧ d = 0)))
theorem specGameOk_j (k : Nat) (x : Bool) (a b c d e : Int) : spec_GameOk.j0 (k + 1) x a b c d e = some (!x && decide ((e = 1 ∧ 0 ≤ c ∧ c ≤ 99 ∧ 0 ≤ d ∧ d ≤ 99) ∨ (e ≠ 1 ∧ c = 0 ∧ d = 0))) := by
  simp only [spec_GameOk.j0, (in_within _ _ _).1, Option.bind_some]
  cases x
  · by_cases he : e = 1
    · by_cases hc : 0 ≤ c ∧ c ≤ 99 <;> simp [he, hc]
      omega
    · by_cases hc : c = 0 <;> simp [he, hc]
      rw [Bool.eq_iff_iff]; simp
  · simp
theorem specGameOk_eq (n a b c d e : Int) (k : Nat) (hn : -9223372036854775808 ≤ n) (hk : 0 < k) : spec_GameOk.f k n a b c d e = some (gameOk n a b c d e) := by
  obtain ⟨k, rfl⟩ : ∃ m, k = m + 1 := ⟨k - 1, by omega⟩
  unfold spec_GameOk.f gameOk
  simp only [(in_within _ _ _).1, Option.bind_some, specGameOk_j]
  by_cases h1 : 2 ≤ n ∧ n ≤ 8
  · have hw : wrap64 (n - 1) = n - 1 := wrap_id (by omega) (by omega)
    rw [hw]
    by_cases h2 : 0 ≤ a ∧ a ≤ n - 1 <;> by_cases h3 : 0 ≤ b ∧ b ≤ n - 1 <;> by_cases h4 : a = b <;> by_cases h5 : 0 ≤ e ∧ e ≤ 4 <;> simp [h1, h2, h3, h4, h5]
    all_goals (try omega)
  · simp [h1]
    omega
theorem implGameOk_j (n m a b c d e : Int) (k : Nat) (hn : -9223372036854775808 ≤ n) (hk : 0 < k) : impl_GameOk.j0 k n m a b c d e = some (decide (2 ≤ n ∧ n ≤ 8 ∧ a ≠ b ∧ 0 ≤ a ∧ a ≤ n - 1 ∧ 0 ≤ b ∧ b ≤ n - 1 ∧ 0 ≤ e ∧ e ≤ 4 ∧ 0 ≤ c ∧ c ≤ m ∧ 0 ≤ d ∧ d ≤ m)) := by
  obtain ⟨k, rfl⟩ : ∃ m, k = m + 1 := ⟨k - 1, by omega⟩
  simp only [impl_GameOk.j0, (in_within _ _ _).2, Option.bind_some]
  by_cases h1 : 2 ≤ n ∧ n ≤ 8
  · have hw : wrap64 (n - 1) = n - 1 := wrap_id (by omega) (by omega)
    rw [hw]
    by_cases h4 : a = b
    · simp [h1, h4]
    · by_cases h2 : 0 ≤ a ∧ a ≤ n - 1
      · by_cases h3 : 0 ≤ b ∧ b ≤ n - 1
        · by_cases h5 : 0 ≤ e ∧ e ≤ 4
          · by_cases h6 : 0 ≤ c ∧ c ≤ m <;> simp [h1, h2, h3, h4, h5, h6]
            omega
          · simp [h1, h2, h3, h4, h5]; omega
        · simp [h1, h2, h3, h4]; omega
      · simp [h1, h2, h4]; omega
  · simp [h1]; omega
theorem implGameOk_eq (n a b c d e : Int) (k : Nat) (hn : -9223372036854775808 ≤ n) (hk : 0 < k) : impl_GameOk.f k n a b c d e = some (gameOk n a b c d e) := by
  unfold impl_GameOk.f gameOk
  by_cases he : e = 1
  · rw [if_pos he, implGameOk_j n 99 a b c d e k hn hk]
    congr 1
    rw [decide_eq_decide]
    omega
  · rw [if_neg he, implGameOk_j n 0 a b c d e k hn hk]
    congr 1
    rw [decide_eq_decide]
    omega
theorem specGameOf_loop (a b : Int) (l : List S61) (hn : l.length ≤ 9223372036854775807) (d : Nat) : ∀ (k i : Nat), i + d = l.length → d < k → (∀ j z, j < i → l[j]? = some z → ((z.f0 == a) && (z.f1 == b)) = false) →
    spec_GameOf.l0 k a b l l.length i = some (idxP (fun x => (x.f0 == a) && (x.f1 == b)) l) := by
  induction d with
  | zero =>
    intro k i hd hk hf
    obtain ⟨k, rfl⟩ : ∃ m, k = m + 1 := ⟨k - 1, by omega⟩
    simp only [spec_GameOf.l0]
    rw [if_neg (by omega), idxP_miss _ l (fun j z hj hz => hf j z (by omega) hz)]
  | succ d ih =>
    intro k i hd hk hf
    obtain ⟨k, rfl⟩ : ∃ m, k = m + 1 := ⟨k - 1, by omega⟩
    have hi : i < l.length := by omega
    have hlt : (i : Int) < (l.length : Int) := by omega
    have h0 : (0 : Int) ≤ (i : Int) := by omega
    have hy : l[i]? = some l[i] := List.getElem?_eq_getElem hi
    have hr : rd_T61 l (i : Int) = l[i] := getD_nat _ l i hi
    simp only [spec_GameOf.l0, hlt, h0, if_true, wrap_succ hi hn, hr]
    by_cases c : (l[i].f0 == a && l[i].f1 == b) = true
    · rw [idxP_hit _ l i _ hy c hf]
      simp only [Bool.and_eq_true, beq_iff_eq] at c
      simp [c]
    · have c' : (l[i].f0 == a && l[i].f1 == b) = false := by simpa using c
      have e := ih k (i + 1) (by omega) (by omega) (fun j z hj hz => by
        by_cases ej : j = i
        · subst ej; rw [hy] at hz; cases hz; exact c'
        · exact hf j z (by omega) hz)
      rw [e]
      repeat' split
      all_goals first | rfl | (exfalso; simp_all)
theorem specGameOf_eq (a b : Int) (l : List S61) (hn : l.length ≤ 9223372036854775807) (k : Nat) (hk : l.length < k) : spec_GameOf.f k l a b = some (idxP (fun x => (x.f0 == a) && (x.f1 == b)) l) := by
  unfold spec_GameOf.f
  exact specGameOf_loop a b l hn l.length k 0 (by omega) hk (fun j z hj => absurd hj (Nat.not_lt_zero _))
theorem idxP_neg {α : Type} (p : α → Bool) (l : List α) : idxP p l < 0 ↔ ∀ (j : Nat) (z : α), l[j]? = some z → p z = false := by
  unfold idxP
  cases h : l.findIdx? p with
  | none =>
    rw [List.findIdx?_eq_none_iff] at h
    exact ⟨fun _ j z hz => h z (List.mem_of_getElem? hz), fun _ => by simp⟩
  | some i =>
    rw [List.findIdx?_eq_some_iff_getElem] at h
    obtain ⟨hi, hp, _⟩ := h
    constructor
    · intro hneg; simp at hneg; omega
    · intro hall
      have := hall i _ (List.getElem?_eq_getElem hi)
      rw [hp] at this; cases this
theorem idxP_at {α : Type} (p : α → Bool) (l : List α) (i : Nat) (y : α) (hy : l[i]? = some y) (hp : p y = true) : (idxP p l = i) ↔ idxP p (l.take i) < 0 := by
  have hi : i < l.length := (List.getElem?_eq_some_iff.1 hy).1
  rw [idxP_neg]
  constructor
  · intro h j z hz
    by_cases hj : j < i
    · rw [List.getElem?_take_of_lt hj] at hz
      unfold idxP at h
      cases hf : l.findIdx? p with
      | none => rw [hf] at h; simp at h
      | some m =>
        rw [hf] at h
        have hm : m = i := by have h2 : (m : Int) = (i : Int) := h; omega
        subst hm
        rw [List.findIdx?_eq_some_iff_getElem] at hf
        obtain ⟨_, _, hb⟩ := hf
        have hjl : j < l.length := by omega
        rw [List.getElem?_eq_getElem hjl] at hz
        cases hz
        exact Bool.eq_false_iff.mpr (hb j hj)
    · rw [List.getElem?_take_eq_none (by omega)] at hz; cases hz
  · intro h
    exact idxP_hit p l i y hy hp (fun j z hj hz => h j z (by rw [List.getElem?_take_of_lt hj]; exact hz))
def pairP (a b : Int) (x : S61) : Bool := (x.f0 == a) && (x.f1 == b)
/-- The games from i on (d of them): each valid, none of them played before. -/
def seasonFrom (n : Int) (l : List S61) : Nat → Nat → Bool
  | _, 0 => true
  | i, d + 1 => gameOk n (rd_T61 l i).f0 (rd_T61 l i).f1 (rd_T61 l i).f2 (rd_T61 l i).f3 (rd_T61 l i).f4 && (decide (idxP (pairP (rd_T61 l i).f0 (rd_T61 l i).f1) (l.take i) < 0) && seasonFrom n l (i + 1) d)
def seasonOk (n : Int) (l : List S61) : Bool := decide (l.length ≤ 60) && seasonFrom n l 0 l.length
theorem specSeason_loop (n : Int) (hw : -9223372036854775808 ≤ n) (l : List S61) (hn : l.length ≤ 9223372036854775807) (d : Nat) : ∀ (k i : Nat), i + d = l.length → l.length + d < k →
    spec_SeasonOk.l0 k n l l l.length i = some (seasonFrom n l i d) := by
  induction d with
  | zero =>
    intro k i hd hk
    obtain ⟨k, rfl⟩ : ∃ m, k = m + 1 := ⟨k - 1, by omega⟩
    simp only [spec_SeasonOk.l0, seasonFrom]
    rw [if_neg (by omega)]
  | succ d ih =>
    intro k i hd hk
    obtain ⟨k, rfl⟩ : ∃ m, k = m + 1 := ⟨k - 1, by omega⟩
    have hi : i < l.length := by omega
    have hlt : (i : Int) < (l.length : Int) := by omega
    have h0 : (0 : Int) ≤ (i : Int) := by omega
    have hy : l[i]? = some (rd_T61 l i) := by rw [List.getElem?_eq_getElem hi]; congr 1; exact (getD_nat _ l i hi).symm
    simp only [spec_SeasonOk.l0, hlt, h0, if_true, wrap_succ hi hn, specGameOk_eq n _ _ _ _ _ k hw (by omega), specGameOf_eq _ _ l hn k (by omega), Option.bind_some, ih k (i + 1) (by omega) (by omega), seasonFrom]
    have ha := idxP_at (pairP (rd_T61 l i).f0 (rd_T61 l i).f1) l i _ hy (by simp [pairP])
    generalize gameOk n (rd_T61 l i).f0 (rd_T61 l i).f1 (rd_T61 l i).f2 (rd_T61 l i).f3 (rd_T61 l i).f4 = g
    change (if g = true then (if idxP (pairP _ _) l = (i : Int) then _ else _) else _) = _
    cases g with
    | false => rfl
    | true =>
      rw [if_pos rfl]
      by_cases c : idxP (pairP (rd_T61 l i).f0 (rd_T61 l i).f1) l = (i : Int)
      · rw [if_pos c, decide_eq_true (ha.1 c)]; rfl
      · rw [if_neg c, decide_eq_false (fun h => c (ha.2 h))]; rfl
theorem implSeason_loop (n : Int) (hw : -9223372036854775808 ≤ n) (l : List S61) (hn : l.length ≤ 9223372036854775807) (d : Nat) : ∀ (k i : Nat), i + d = l.length → d + 1 < k →
    impl_SeasonOk.l0 k n l l l.length i = some (seasonFrom n l i d && decide (l.length ≤ 60)) := by
  induction d with
  | zero =>
    intro k i hd hk
    obtain ⟨k, rfl⟩ : ∃ m, k = m + 1 := ⟨k - 1, by omega⟩
    simp only [impl_SeasonOk.l0, seasonFrom]
    rw [if_neg (by omega), Bool.true_and]
    congr 1
    rw [decide_eq_decide]; omega
  | succ d ih =>
    intro k i hd hk
    obtain ⟨k, rfl⟩ : ∃ m, k = m + 1 := ⟨k - 1, by omega⟩
    have hi : i < l.length := by omega
    have hlt : (i : Int) < (l.length : Int) := by omega
    have hle : (i : Int) ≤ (l.length : Int) := by omega
    have h0 : (0 : Int) ≤ (i : Int) := by omega
    simp only [impl_SeasonOk.l0, hlt, hle, h0, if_true, wrap_succ hi hn, implGameOk_eq n _ _ _ _ _ k hw (by omega), impl_GameOf.f, Option.bind_some, ih k (i + 1) (by omega) (by omega), seasonFrom, Int.toNat_natCast]
    generalize gameOk n (rd_T61 l i).f0 (rd_T61 l i).f1 (rd_T61 l i).f2 (rd_T61 l i).f3 (rd_T61 l i).f4 = g
    change (if g = true then (if idxP (pairP _ _) (l.take i) ≥ 0 then _ else _) else _) = _
    cases g with
    | false => rfl
    | true =>
      rw [if_pos rfl]
      by_cases c : idxP (pairP (rd_T61 l i).f0 (rd_T61 l i).f1) (l.take i) < 0
      · rw [if_neg (by omega), decide_eq_true c]; rfl
      · rw [if_pos (by omega), decide_eq_false c]; rfl
theorem specSeason_eq (n : Int) (hw : -9223372036854775808 ≤ n) (l : List S61) (hn : l.length ≤ 9223372036854775807) (k : Nat) (hk : 2 * l.length < k) : spec_SeasonOk.f k n l = some (seasonOk n l) := by
  unfold spec_SeasonOk.f seasonOk
  by_cases h : (l.length : Int) > 60
  · rw [if_pos h, decide_eq_false (by omega)]; rfl
  · rw [if_neg h, decide_eq_true (by omega)]
    exact specSeason_loop n hw l hn l.length k 0 (by omega) (by omega)
theorem implSeason_eq (n : Int) (hw : -9223372036854775808 ≤ n) (l : List S61) (hn : l.length ≤ 9223372036854775807) (k : Nat) (hk : l.length + 1 < k) : impl_SeasonOk.f k n l = some (seasonOk n l) := by
  unfold impl_SeasonOk.f seasonOk
  rw [Bool.and_comm]
  exact implSeason_loop n hw l hn l.length k 0 (by omega) (by omega)
def noteFits (n : Int) (l : List S61) (s g h a c d e : Int) : Bool :=
  decide (1 ≤ s ∧ s ≤ 100000 ∧ 0 ≤ g ∧ g ≤ (l.length : Int) - 1) && (gameOk n h a c d e && (!(e == 0) && decide (h = (rd_T61 l g).f0 ∧ a = (rd_T61 l g).f1)))
theorem specNote_eq (n : Int) (hw : -9223372036854775808 ≤ n) (l : List S61) (hn : l.length ≤ 9223372036854775807) (s g h a c d e : Int) (k : Nat) (hk : 0 < k) : spec_l05Note.f k n l s g h a c d e = some (noteFits n l s g h a c d e) := by
  have hwl : wrap64 ((l.length : Int) - 1) = (l.length : Int) - 1 := wrap_id (by omega) (by omega)
  unfold spec_l05Note.f noteFits
  simp only [(in_within _ _ _).1, Option.bind_some, hwl, specGameOk_eq n _ _ _ _ _ k hw hk, spec_IsOpen.f]
  by_cases h1 : 1 ≤ s ∧ s ≤ 100000
  · by_cases h2 : 0 ≤ g ∧ g ≤ (l.length : Int) - 1
    · have h3 : g < (l.length : Int) := by omega
      rw [if_pos (decide_eq_true h1), if_pos (decide_eq_true h2), decide_eq_true (show 1 ≤ s ∧ s ≤ 100000 ∧ 0 ≤ g ∧ g ≤ (l.length : Int) - 1 from ⟨h1.1, h1.2, h2.1, h2.2⟩)]
      generalize gameOk n h a c d e = q
      cases q with
      | false => rfl
      | true =>
        rw [if_pos rfl]
        cases (e == 0) with
        | true => rfl
        | false =>
          rw [if_neg (by simp), if_pos h2.1, if_pos h3]
          by_cases c1 : h = (rd_T61 l g).f0
          · rw [if_pos c1]
            congr 1
            rw [Bool.eq_iff_iff]
            simp [c1]
          · rw [if_neg c1]
            simp [c1]
    · rw [if_pos (decide_eq_true h1), if_neg (by simpa using h2), decide_eq_false (fun h => h2 ⟨h.2.2.1, h.2.2.2⟩)]
      rfl
  · rw [if_neg (by simpa using h1), decide_eq_false (fun h => h1 ⟨h.1, h.2.1⟩)]
    rfl
theorem implNote_eq (n : Int) (hw : -9223372036854775808 ≤ n) (l : List S61) (hn : l.length ≤ 9223372036854775807) (s g h a c d e : Int) (k : Nat) (hk : 1 < k) : impl_noteFits.f k n l s g h a c d e = some (noteFits n l s g h a c d e) := by
  have hwl : wrap64 ((l.length : Int) - 1) = (l.length : Int) - 1 := wrap_id (by omega) (by omega)
  obtain ⟨k, rfl⟩ : ∃ m, k = m + 1 := ⟨k - 1, by omega⟩
  unfold impl_noteFits.f noteFits
  simp only [(in_within _ _ _).2, Option.bind_some, hwl, impl_noteFits.j0, implGameOk_eq n _ _ _ _ _ k hw (by omega), impl_IsOpen.f]
  by_cases h1 : 1 ≤ s ∧ s ≤ 100000
  · by_cases h2 : 0 ≤ g ∧ g ≤ (l.length : Int) - 1
    · have h3 : g < (l.length : Int) := by omega
      rw [if_pos (decide_eq_true h1), decide_eq_true h2, decide_eq_true (show 1 ≤ s ∧ s ≤ 100000 ∧ 0 ≤ g ∧ g ≤ (l.length : Int) - 1 from ⟨h1.1, h1.2, h2.1, h2.2⟩), if_neg (by simp), if_pos h2.1, if_pos h3]
      generalize gameOk n h a c d e = q
      cases q with
      | false => rfl
      | true =>
        rw [if_pos rfl]
        by_cases c1 : h = (rd_T61 l g).f0
        · rw [if_pos c1]
          by_cases c2 : a = (rd_T61 l g).f1
          · rw [if_pos c2, decide_eq_true ⟨c1, c2⟩]
            simp
          · rw [if_neg c2, decide_eq_false (fun h => c2 h.2)]
            simp
        · rw [if_neg c1, decide_eq_false (fun h => c1 h.1)]
          simp
    · rw [if_pos (decide_eq_true h1), decide_eq_false h2, if_pos (by simp), decide_eq_false (fun h => h2 ⟨h.2.2.1, h.2.2.2⟩)]
      rfl
  · rw [if_neg (by simpa using h1), if_pos trivial, decide_eq_false (fun h => h1 ⟨h.1, h.2.1⟩)]
    rfl
theorem sameN_iff (y x : S63) : impl_NotesOk.same y x = true ↔ y = x := by
  obtain ⟨a0, a1, b0, b1, b2, b3, b4⟩ := y
  obtain ⟨c0, c1, d0, d1, d2, d3, d4⟩ := x
  simp [impl_NotesOk.same]
theorem diffN_iff (y x : S63) : (!((y.f0) == x.f0) || (!((y.f1) == x.f1) || ((!((y.f2.f0) == x.f2.f0) || (!((y.f2.f1) == x.f2.f1) || (!((y.f2.f2) == x.f2.f2) || (!((y.f2.f3) == x.f2.f3) || (!((y.f2.f4) == x.f2.f4))))))))) = true ↔ ¬ y = x := by
  obtain ⟨a0, a1, b0, b1, b2, b3, b4⟩ := y
  obtain ⟨c0, c1, d0, d1, d2, d3, d4⟩ := x
  simp
  constructor
  · intro h h0 h1 h2 h3 h4 h5 h6; simp_all
  · intro h
    by_cases h0 : a0 = c0 <;> by_cases h1 : a1 = c1 <;> by_cases h2 : b0 = d0 <;> by_cases h3 : b1 = d1 <;> by_cases h4 : b2 = d2 <;> by_cases h5 : b3 = d3 <;> by_cases h6 : b4 = d4 <;> simp_all
open Classical in
/-- The notes from i on (d of them): each fits, and no earlier one has its serial but the same note itself. -/
noncomputable def notesFrom (n : Int) (gs : List S61) (l : List S63) : Nat → Nat → Bool
  | _, 0 => true
  | i, d + 1 => noteFits n gs (rd_T63 l i).f0 (rd_T63 l i).f1 (rd_T63 l i).f2.f0 (rd_T63 l i).f2.f1 (rd_T63 l i).f2.f2 (rd_T63 l i).f2.f3 (rd_T63 l i).f2.f4 && (decide (∀ y ∈ l.take i, y.f0 = (rd_T63 l i).f0 → y = rd_T63 l i) && notesFrom n gs l (i + 1) d)
noncomputable def notesOk (n : Int) (gs : List S61) (l : List S63) : Bool := seasonOk n gs && (decide (l.length ≤ 80) && notesFrom n gs l 0 l.length)
open Classical in
theorem specNotes_in (n : Int) (gs : List S61) (l y : List S63) (x : S63) (hy : y.length ≤ 9223372036854775807) (i : Int) (K : Nat) (B : Bool) (H : ∀ k, K ≤ k → spec_NotesOk.l0 k n gs l l l.length (wrap64 (i + 1)) = some B) (d : Nat) : ∀ (k j : Nat), j + d = y.length → K + d < k →
    spec_NotesOk.l1 k n gs l l l.length i y y.length j x.f0 x.f1 x.f2.f0 x.f2.f1 x.f2.f2 x.f2.f3 x.f2.f4 = some (decide (∀ z ∈ y.drop j, z.f0 = x.f0 → z = x) && B) := by
  induction d with
  | zero =>
    intro k j hd hk
    obtain ⟨k, rfl⟩ : ∃ m, k = m + 1 := ⟨k - 1, by omega⟩
    simp only [spec_NotesOk.l1]
    rw [if_neg (by omega), H k (by omega), List.drop_of_length_le (by omega), decide_eq_true (by simp)]
    rfl
  | succ d ih =>
    intro k j hd hk
    obtain ⟨k, rfl⟩ : ∃ m, k = m + 1 := ⟨k - 1, by omega⟩
    have hj : j < y.length := by omega
    have e : y.drop j = rd_T63 y j :: y.drop (j + 1) := by
      rw [List.drop_eq_getElem_cons hj, show rd_T63 y (j : Int) = y[j] from getD_nat _ y j hj]
    simp only [spec_NotesOk.l1]
    rw [if_pos (by omega), if_pos (by omega), if_pos (by omega), wrap_succ hj hy, ih k (j + 1) (by omega) (by omega), e]
    generalize rd_T63 y (j : Int) = q
    by_cases h0 : q.f0 = x.f0
    · rw [if_pos h0]
      by_cases h1 : q = x
      · rw [if_neg (fun h => (diffN_iff q x).1 h h1)]
        congr 2
        rw [decide_eq_decide]
        simp only [List.mem_cons, forall_eq_or_imp]
        exact ⟨fun h => ⟨fun _ => h1, h⟩, fun h => h.2⟩
      · rw [if_pos ((diffN_iff q x).2 h1), decide_eq_false (fun h => h1 (h q (List.mem_cons_self) h0))]
        rfl
    · rw [if_neg h0]
      congr 2
      rw [decide_eq_decide]
      simp only [List.mem_cons, forall_eq_or_imp]
      exact ⟨fun h => ⟨fun c => absurd c h0, h⟩, fun h => h.2⟩
open Classical in
theorem specNotes_loop (n : Int) (hb : -9223372036854775808 ≤ n) (gs : List S61) (hg : gs.length ≤ 9223372036854775807) (l : List S63) (hn : l.length ≤ 80) (d : Nat) : ∀ (k i : Nat), i + d = l.length → d * 100 + 1 < k →
    spec_NotesOk.l0 k n gs l l l.length i = some (notesFrom n gs l i d) := by
  induction d with
  | zero =>
    intro k i hd hk
    obtain ⟨k, rfl⟩ : ∃ m, k = m + 1 := ⟨k - 1, by omega⟩
    simp only [spec_NotesOk.l0, notesFrom]
    rw [if_neg (by omega)]
  | succ d ih =>
    intro k i hd hk
    obtain ⟨k, rfl⟩ : ∃ m, k = m + 1 := ⟨k - 1, by omega⟩
    have hi : i < l.length := by omega
    have hw : wrap64 ((i : Int) + 1) = ((i + 1 : Nat) : Int) := wrap_succ hi (by omega)
    simp only [spec_NotesOk.l0, notesFrom]
    rw [if_pos (by omega), if_pos (by omega), if_pos (by omega), specNote_eq n hb gs hg _ _ _ _ _ _ _ k (by omega), Option.bind_some]
    generalize noteFits n gs _ _ _ _ _ _ _ = q
    cases q with
    | false => rfl
    | true =>
      rw [if_pos rfl, if_pos (by omega), Option.bind_some, Int.toNat_natCast]
      exact specNotes_in n gs l (l.take i) (rd_T63 l i) (by simp; omega) i (d * 100 + 2) _ (fun k hk => by rw [hw]; exact ih k (i + 1) (by omega) (by omega)) (l.take i).length k 0 (by simp) (by simp; omega)
theorem specNotes_eq (n : Int) (hb : -9223372036854775808 ≤ n) (gs : List S61) (hg : gs.length ≤ 9223372036854775807) (l : List S63) (hn : l.length ≤ 9223372036854775807) (k : Nat) (hk : 2 * gs.length + 9000 < k) :
    spec_NotesOk.f k n gs l = some (notesOk n gs l) := by
  unfold spec_NotesOk.f notesOk
  obtain ⟨k, rfl⟩ : ∃ m, k = m + 1 := ⟨k - 1, by omega⟩
  rw [specSeason_eq n hb gs hg (k + 1) (by omega), Option.bind_some]
  cases seasonOk n gs with
  | false => rfl
  | true =>
    rw [if_pos rfl]
    simp only [spec_NotesOk.j0]
    by_cases h : l.length ≤ 80
    · rw [if_neg (by simp; omega), decide_eq_true h]; exact specNotes_loop n hb gs hg l h l.length k 0 (by omega) (by omega)
    · rw [if_pos (by simp; omega), decide_eq_false h]; rfl
def agree (l : List S63) (i : Nat) : Prop := ∀ y ∈ l.take i, ∀ z ∈ l.take i, y.f0 = z.f0 → y = z
open Classical in
theorem implNotes_loop (n : Int) (hb : -9223372036854775808 ≤ n) (gs : List S61) (hg : gs.length ≤ 9223372036854775807) (l : List S63) (hwf : ∀ x ∈ l, (Lit.int .i64 x.f0).wf = true) (k : Nat) (hk : 1 < k) (d : Nat) : ∀ (i : Nat), i + d = l.length → agree l i →
    impl_NotesOk.l0 k n gs l d i = some (notesFrom n gs l i d) := by
  induction d with
  | zero => intro i hd ha; rfl
  | succ d ih =>
    intro i hd ha
    have hi : i < l.length := by omega
    have hx : rd_T63 l i = l[i] := getD_nat _ l i hi
    have hw : (Lit.int .i64 (rd_T63 l i).f0).wf = true := by rw [hx]; exact hwf _ (List.getElem_mem hi)
    have ht : l.take (i + 1) = l.take i ++ [rd_T63 l i] := by rw [take_step l i hi, hx]
    simp only [impl_NotesOk.l0, notesFrom]
    rw [implNote_eq n hb gs hg _ _ _ _ _ _ _ k hk, Option.bind_some]
    generalize noteFits n gs _ _ _ _ _ _ _ = q
    cases q with
    | false => rw [if_neg (by simp), if_pos hw]; rfl
    | true =>
      rw [if_pos rfl, if_pos hw]
      have hs : ∀ b, impl_NotesOk.seen l i (rd_T63 l i).f0 = b → b = (l.take i).reverse.find? (fun x => x.f0 == (rd_T63 l i).f0) := fun b hb => by rw [← hb]; rfl
      have key : (∀ y ∈ l.take i, y.f0 = (rd_T63 l i).f0 → y = rd_T63 l i) → agree l (i + 1) := by
        intro h y hy z hz e
        rw [ht] at hy hz
        rcases List.mem_append.1 hy with hy | hy <;> rcases List.mem_append.1 hz with hz | hz
        · exact ha y hy z hz e
        · obtain rfl := List.mem_singleton.1 hz; exact h y hy e
        · obtain rfl := List.mem_singleton.1 hy; exact (h z hz e.symm).symm
        · rw [List.mem_singleton.1 hy, List.mem_singleton.1 hz]
      generalize hq : impl_NotesOk.seen l i (rd_T63 l i).f0 = b
      have hf := hs b hq
      cases b with
      | none =>
        have hno := List.find?_eq_none.1 hf.symm
        have hall : ∀ y ∈ l.take i, y.f0 = (rd_T63 l i).f0 → y = rd_T63 l i := fun y hy e => absurd (by simpa using e) (hno y (List.mem_reverse.2 hy))
        rw [decide_eq_true hall]
        exact ih (i + 1) (by omega) (key hall)
      | some y =>
        have hy : y ∈ l.take i := List.mem_reverse.1 (List.mem_of_find?_eq_some hf.symm)
        have h0 : y.f0 = (rd_T63 l i).f0 := by simpa using List.find?_some hf.symm
        change (if impl_NotesOk.same y _ = true then _ else _) = _
        by_cases e : y = rd_T63 l i
        · have hall : ∀ z ∈ l.take i, z.f0 = (rd_T63 l i).f0 → z = rd_T63 l i := fun z hz hz0 => (ha z hz y hy (hz0.trans h0.symm)).trans e
          rw [if_pos ((sameN_iff y _).2 e), decide_eq_true hall]
          exact ih (i + 1) (by omega) (key hall)
        · rw [if_neg (fun h => e ((sameN_iff y _).1 h)), decide_eq_false (fun h => e (h y hy h0))]
          rfl
theorem implNotes_eq (n : Int) (hb : -9223372036854775808 ≤ n) (gs : List S61) (hg : gs.length ≤ 9223372036854775807) (l : List S63) (hwf : ∀ x ∈ l, (Lit.int .i64 x.f0).wf = true) (k : Nat) (hk : gs.length + 1 < k) :
    impl_NotesOk.f k n gs l = some (notesOk n gs l) := by
  unfold impl_NotesOk.f notesOk
  rw [implSeason_eq n hb gs hg k hk, Option.bind_some]
  cases seasonOk n gs with
  | false => rfl
  | true =>
    rw [if_pos rfl]
    by_cases h : l.length ≤ 80
    · rw [if_pos h, implNotes_loop n hb gs hg l hwf k (by omega) l.length 0 (by omega) (fun y hy => by simp at hy), decide_eq_true h]; rfl
    · rw [if_neg h, decide_eq_false h]; rfl
theorem FnExactNotesOk : FnExactNotesOk_pure := by
  intro n lg ln hw hl _ hl2 hx
  have hb := (wf_bd hw).1
  unfold maxLen at hl hl2
  refine ⟨2 * lg.length + ln.length + 20000, ?_⟩
  unfold laws_FnExactNotesOk.f laws_szGameS.f laws_szNoteS.f
  by_cases hb' : 1048576 < lg.length
  · rw [if_pos (sz_big (by omega) hb')]; rfl
  · obtain ⟨h1, h2⟩ := sz_small (show lg.length ≤ 1048576 by omega)
    rw [if_neg h1, h2, Option.bind_some, if_neg (by omega)]
    have hz : wrap64 (1048576 - (lg.length : Int) - (ln.length : Int)) = 1048576 - (lg.length : Int) - (ln.length : Int) := wrap_id (by omega) (by omega)
    rw [hz]
    by_cases h3 : 1048576 - (lg.length : Int) - (ln.length : Int) < 0
    · rw [if_pos h3]; rfl
    · rw [if_neg h3, Option.bind_some, if_neg h3]
      have e1 := laws_toGameS_eq lg (by omega) (2 * lg.length + ln.length + 20000) (by omega)
      have e2 := laws_toNoteS_eq ln (by omega) (2 * lg.length + ln.length + 20000) (by omega)
      have hwf : ∀ x ∈ ln.map laws_toNoteS_c, (Lit.int .i64 x.f0).wf = true := by
        intro x hm
        obtain ⟨y, hy, rfl⟩ := List.mem_map.1 hm
        exact (hx y hy).1
      generalize hm : lg.map laws_toGameS_c = m at e1
      have hml : m.length = lg.length := by rw [← hm]; simp
      generalize hm2 : ln.map laws_toNoteS_c = q at e2 hwf
      have hql : q.length = ln.length := by rw [← hm2]; simp
      have q1 := specNotes_eq n hb m (by omega) q (by omega) (2 * lg.length + ln.length + 20000) (by omega)
      have q2 := implNotes_eq n hb m (by omega) q hwf (2 * lg.length + ln.length + 20000) (by omega)
      have q3 := laws_eqGameS_eq m (by omega) (2 * lg.length + ln.length + 20000) (by omega)
      have q4 := laws_eqNoteS_eq q (by omega) (2 * lg.length + ln.length + 20000) (by omega)
      simp only [Option.bind_some, e1, e2, q1, q2, q3, q4, if_true, bne_self_eq_false, Bool.false_eq_true, if_false]

end Go.Proofs.Ytapmiocpkddbfaa.Pure
