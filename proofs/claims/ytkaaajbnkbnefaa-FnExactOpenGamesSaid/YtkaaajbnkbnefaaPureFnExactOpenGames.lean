/- Whatever the games: OpenGames of the program and of the reference answer alike, in memory of its own at each call, and the games stay as they were; no condition beyond the form's own reach. -/
import Derived.Test.YtkaaajbnkbnefaaSayFnExactOpenGames
import Derived.Test.YtkaaajbnkbnefaaPureKit
namespace Go.Proofs.Ytkaaajbnkbnefaa.Pure
open Go.RowKit Go.Proofs.Ytkaaajbnkbnefaa.MFnExactOpenGames Go.Proofs.Ytkaaajbnkbnefaa.PureKit Go.Proofs.YtkaaajbnkbnefaaW.PrintWords Go.Proofs.YtkaaajbnkbnefaaW.PrintLast
set_option linter.unusedSimpArgs false
set_option linter.unusedVariables false
theorem sz_big {n : Nat} (h : n ≤ 9223372036854775807) (hb : 1048576 < n) : wrap64 (1048576 - (n : Int)) < 0 := by rw [wrap_id (by omega) (by omega)]; omega
theorem sz_small {n : Nat} (hb : n ≤ 1048576) : ¬ wrap64 (1048576 - (n : Int)) < 0 ∧ wrap64 (1048576 - (n : Int)) = 1048576 - (n : Int) := by
  have h := wrap_id (x := 1048576 - (n : Int)) (by omega) (by omega)
  rw [h]; exact ⟨by omega, rfl⟩
def laws_toGameS_c (x : S94) : S90 := ⟨x.f0, x.f1, x.f2, x.f3, x.f4⟩
theorem laws_toGameS_loop (x0 : List S94) (hn : x0.length ≤ 9223372036854775807) (d : Nat) : ∀ (k i : Nat) (acc : List S90), acc.length = x0.length → acc.take i = (x0.take i).map laws_toGameS_c → i + d = x0.length → d < k →
    laws_toGameS.l0 k x0 acc i = some (x0.map laws_toGameS_c) := by
  induction d with
  | zero =>
    intro k i acc hl ht hd hk
    obtain ⟨k, rfl⟩ : ∃ m, k = m + 1 := ⟨k - 1, by omega⟩
    simp only [laws_toGameS.l0]
    rw [if_neg (by omega)]
    rw [List.take_of_length_le (by omega), List.take_of_length_le (by omega)] at ht
    rw [ht]
  | succ d ih =>
    intro k i acc hl ht hd hk
    obtain ⟨k, rfl⟩ : ∃ m, k = m + 1 := ⟨k - 1, by omega⟩
    have hi : i < x0.length := by omega
    simp only [laws_toGameS.l0, laws_toGame.f, Option.bind_some]
    rw [if_pos (by omega), if_pos (by omega), if_pos (by omega), wrap_succ hi hn, show rd_T94 x0 (i : Int) = x0[i] from getD_nat _ x0 i hi, Int.toNat_natCast]
    exact ih k (i + 1) _ (by simp [hl]) (set_copy laws_toGameS_c x0 acc i hi hl ht) (by omega) (by omega)
theorem laws_toGameS_eq (x0 : List S94) (hn : x0.length ≤ 7036874417766) (k : Nat) (hk : x0.length < k) : laws_toGameS.f k x0 = some (x0.map laws_toGameS_c) := by
  unfold laws_toGameS.f
  rw [if_pos (by omega), if_pos (by omega)]
  exact laws_toGameS_loop x0 (by omega) x0.length k 0 _ (by simp) (by simp) (by omega) hk
theorem laws_eqGameS_loop (x : List S90) (hn : x.length ≤ 9223372036854775807) (d : Nat) : ∀ (k i : Nat), i + d = x.length → d < k → laws_eqGameS.l0 k x x i = some true := by
  induction d with
  | zero =>
    intro k i hd hk
    obtain ⟨k, rfl⟩ : ∃ m, k = m + 1 := ⟨k - 1, by omega⟩
    simp only [laws_eqGameS.l0]
    rw [if_neg (by omega)]
  | succ d ih =>
    intro k i hd hk
    obtain ⟨k, rfl⟩ : ∃ m, k = m + 1 := ⟨k - 1, by omega⟩
    simp only [laws_eqGameS.l0, laws_eqGame.f]
    rw [if_pos (by omega), if_pos (by omega), if_pos (by omega), wrap_succ (show i < x.length by omega) hn]
    simp only [if_true, Option.bind_some]
    exact ih k (i + 1) (by omega) (by omega)
theorem laws_eqGameS_eq (x : List S90) (hn : x.length ≤ 9223372036854775807) (k : Nat) (hk : x.length < k) : laws_eqGameS.f k x x = some true := by
  unfold laws_eqGameS.f
  rw [if_pos rfl]
  exact laws_eqGameS_loop x hn x.length k 0 (by omega) hk
theorem eqIntS_loop (x : List Int) (hn : x.length ≤ 9223372036854775807) (d : Nat) : ∀ (k i : Nat), i + d = x.length → d < k → laws_eqIntS.l0 k x x i = some true := by
  induction d with
  | zero =>
    intro k i hd hk
    obtain ⟨k, rfl⟩ : ∃ m, k = m + 1 := ⟨k - 1, by omega⟩
    simp only [laws_eqIntS.l0]
    rw [if_neg (by omega)]
  | succ d ih =>
    intro k i hd hk
    obtain ⟨k, rfl⟩ : ∃ m, k = m + 1 := ⟨k - 1, by omega⟩
    simp only [laws_eqIntS.l0]
    rw [if_pos (by omega), if_pos (by omega), if_pos (by omega), if_pos trivial, wrap_succ (show i < x.length by omega) hn]
    exact ih k (i + 1) (by omega) (by omega)
theorem eqIntS_eq (x : List Int) (hn : x.length ≤ 9223372036854775807) (k : Nat) (hk : x.length < k) : laws_eqIntS.f k x x = some true := by
  unfold laws_eqIntS.f
  rw [if_pos rfl]
  exact eqIntS_loop x hn x.length k 0 (by omega) hk
def marks (m : Int) (n : Nat) : List Int := (List.range n).map (fun j : Nat => m + (j : Int))
theorem marks_succ (m : Int) (n : Nat) : marks m (n + 1) = m :: marks (m + 1) n := by
  unfold marks
  rw [List.range_succ_eq_map, List.map_cons, List.map_map]
  congr 1
  · simp
  · apply List.map_congr_left; intro j _; simp only [Function.comp]; omega
theorem marks_len (m : Int) (n : Nat) : (marks m n).length = n := by simp [marks]
theorem markIntS_loop (n : Nat) (hn : n ≤ 1000000000) (d : Nat) : ∀ (k i : Nat) (l : List Int) (m : Int), l.length = n → i + d = n → d < k → 0 ≤ m → m + d ≤ 4000000000 →
    laws_markIntS.l0 k l m i = some (m + d, l.take i ++ marks m d) := by
  induction d with
  | zero =>
    intro k i l m hl hd hk _ _
    obtain ⟨k, rfl⟩ : ∃ m, k = m + 1 := ⟨k - 1, by omega⟩
    simp only [laws_markIntS.l0]
    rw [if_neg (by omega), List.take_of_length_le (by omega)]
    simp [marks]
  | succ d ih =>
    intro k i l m hl hd hk h0 hm
    obtain ⟨k, rfl⟩ : ∃ m, k = m + 1 := ⟨k - 1, by omega⟩
    simp only [laws_markIntS.l0]
    rw [if_pos (by omega), if_pos (by omega), wrap_succ (show i < n by omega) (by omega), wrap_id (x := m + 1) (by omega) (by omega), Int.toNat_natCast, ih k (i + 1) _ (m + 1) (by simp [hl]) (by omega) (by omega) (by omega) (by omega)]
    rw [marks_succ]
    have e : (l.set i m).take (i + 1) = l.take i ++ [m] := by
      rw [take_step _ i (by simp; omega)]
      congr 1
      · apply List.ext_getElem?
        intro j
        by_cases hj : j < i
        · rw [List.getElem?_take_of_lt hj, List.getElem?_take_of_lt hj, List.getElem?_set_ne (by omega)]
        · rw [List.getElem?_eq_none (by simp; omega), List.getElem?_eq_none (by simp; omega)]
      · simp
    rw [e, List.append_assoc]
    congr 2
    omega
theorem markIntS_eq (l : List Int) (hn : l.length ≤ 1000000000) (k : Nat) (hk : l.length < k) : laws_markIntS.f k l 1 = some (1 + (l.length : Int), marks 1 l.length) := by
  unfold laws_markIntS.f
  have := markIntS_loop l.length hn l.length k 0 l 1 rfl (by omega) hk (by omega) (by omega)
  simpa using this
theorem heldIntS_loop (L : List Int) (n : Nat) (hL : L.length = n) (hn : n ≤ 1000000000) (d : Nat) : ∀ (k i : Nat) (m : Int), i + d = n → d < k → 0 ≤ m → m + d ≤ 4000000000 → L.drop i = marks m d →
    laws_heldIntS.l0 k L m i = some (m + d) := by
  induction d with
  | zero =>
    intro k i m hd hk _ _ _
    obtain ⟨k, rfl⟩ : ∃ m, k = m + 1 := ⟨k - 1, by omega⟩
    simp only [laws_heldIntS.l0]
    rw [if_neg (by omega)]
    simp
  | succ d ih =>
    intro k i m hd hk h0 hm hdr
    obtain ⟨k, rfl⟩ : ∃ m, k = m + 1 := ⟨k - 1, by omega⟩
    have hi : i < L.length := by omega
    rw [List.drop_eq_getElem_cons hi, marks_succ, List.cons.injEq] at hdr
    simp only [laws_heldIntS.l0]
    rw [if_pos (by omega), if_pos (by omega), rd_nat L i hi, if_pos hdr.1, wrap_succ (show i < n by omega) (by omega), wrap_id (x := m + 1) (by omega) (by omega), ih k (i + 1) (m + 1) (by omega) (by omega) (by omega) (by omega) hdr.2]
    congr 1
    omega
theorem heldIntS_eq (n : Nat) (hn : n ≤ 1000000000) (k : Nat) (hk : n < k) : laws_heldIntS.f k (marks 1 n) 1 = some (1 + (n : Int)) := by
  unfold laws_heldIntS.f
  exact heldIntS_loop (marks 1 n) n (marks_len 1 n) hn n k 0 1 (by omega) hk (by omega) (by omega) rfl
theorem markGameS_loop (n : Nat) (hn : n ≤ 100000000) (d : Nat) : ∀ (k i : Nat) (l : List S90) (m : Int), l.length = n → i + d = n → d < k → 0 ≤ m → m + 5 * d ≤ 4000000000 →
    ∃ L, laws_markGameS.l0 k l m i = some (m + 5 * d, L) := by
  induction d with
  | zero =>
    intro k i l m hl hd hk _ _
    obtain ⟨k, rfl⟩ : ∃ m, k = m + 1 := ⟨k - 1, by omega⟩
    simp only [laws_markGameS.l0]
    rw [if_neg (by omega)]
    exact ⟨l, by simp⟩
  | succ d ih =>
    intro k i l m hl hd hk h0 hm
    obtain ⟨k, rfl⟩ : ∃ m, k = m + 1 := ⟨k - 1, by omega⟩
    have w1 : wrap64 (m + 1) = m + 1 := wrap_id (by omega) (by omega)
    have w2 : wrap64 (m + 1 + 1) = m + 1 + 1 := wrap_id (by omega) (by omega)
    have w3 : wrap64 (m + 1 + 1 + 1) = m + 1 + 1 + 1 := wrap_id (by omega) (by omega)
    have w4 : wrap64 (m + 1 + 1 + 1 + 1) = m + 1 + 1 + 1 + 1 := wrap_id (by omega) (by omega)
    have w5 : wrap64 (m + 1 + 1 + 1 + 1 + 1) = m + 1 + 1 + 1 + 1 + 1 := wrap_id (by omega) (by omega)
    have hlt : (i : Int) < (l.length : Int) := by omega
    have hi0 : (0 : Int) ≤ (i : Int) := by omega
    simp only [laws_markGameS.l0, Option.bind_some, hlt, hi0, if_true, w1, w2, w3, w4, w5, wrap_succ (show i < n by omega) (by omega), Int.toNat_natCast]
    have key : ∀ B : List S90, B.length = n → ∃ L, laws_markGameS.l0 k B (m + 1 + 1 + 1 + 1 + 1) ((i + 1 : Nat) : Int) = some (m + 5 * ((d + 1 : Nat) : Int), L) := fun B hB => by
      obtain ⟨L, hL⟩ := ih k (i + 1) B (m + 1 + 1 + 1 + 1 + 1) hB (by omega) (by omega) (by omega) (by omega)
      exact ⟨L, by rw [hL]; congr 2; omega⟩
    exact key _ (by simp [hl])
theorem markGameS_eq (l : List S90) (hn : l.length ≤ 100000000) (k : Nat) (hk : l.length < k) : ∃ L, laws_markGameS.f k l 1 = some (1 + 5 * (l.length : Int), L) := by
  unfold laws_markGameS.f
  exact markGameS_loop l.length hn l.length k 0 l 1 rfl (by omega) hk (by omega) (by omega)
theorem open_loop (l : List S90) (hn : l.length ≤ 100000000) (d : Nat) : ∀ (k i : Nat), i + d = l.length → d < k →
    spec_OpenGames.l0 k (whereP (fun x => x.f4 == 0) l i) l l.length i = some (whereP (fun x => x.f4 == 0) l l.length) := by
  induction d with
  | zero =>
    intro k i hd hk
    obtain ⟨k, rfl⟩ : ∃ m, k = m + 1 := ⟨k - 1, by omega⟩
    simp only [spec_OpenGames.l0]
    rw [if_neg (by omega), show i = l.length by omega]
  | succ d ih =>
    intro k i hd hk
    obtain ⟨k, rfl⟩ : ∃ m, k = m + 1 := ⟨k - 1, by omega⟩
    have hi : i < l.length := by omega
    have hlt : (i : Int) < (l.length : Int) := by omega
    have h0 : (0 : Int) ≤ (i : Int) := by omega
    have hy : l[i]? = some (rd_T90 l i) := by rw [List.getElem?_eq_getElem hi]; congr 1; exact (getD_nat _ l i hi).symm
    have hl := whereP_len (fun x : S90 => x.f4 == 0) l i
    have hlen : (whereP (fun x : S90 => x.f4 == 0) l i).length < 17592186044416 := by omega
    simp only [spec_OpenGames.l0, spec_IsOpen.f, Option.bind_some, hlt, h0, if_true, wrap_succ hi (by omega), hlen]
    rcases Bool.eq_false_or_eq_true ((rd_T90 l i).f4 == 0) with c | c
    · rw [if_pos c, ← whereP_hit _ l i _ hy c]
      exact ih k (i + 1) (by omega) (by omega)
    · rw [if_neg (by rw [c]; simp)]
      have e := whereP_skip (fun x : S90 => x.f4 == 0) l i _ hy c
      rw [← e]
      exact ih k (i + 1) (by omega) (by omega)
theorem FnExactOpenGames : FnExactOpenGames_pure := by
  intro l hl _
  unfold maxLen at hl
  refine ⟨l.length + 2, ?_⟩
  unfold laws_FnExactOpenGames.f laws_szGameS.f
  by_cases hb : 1048576 < l.length
  · rw [if_pos (sz_big (by omega) hb)]; rfl
  · obtain ⟨h1, h2⟩ := sz_small (show l.length ≤ 1048576 by omega)
    have e := laws_toGameS_eq l (by omega) (l.length + 2) (by omega)
    have e' := laws_toGameS_eq l (by omega) (l.length + 1) (by omega)
    generalize hm : l.map laws_toGameS_c = m at e e'
    have hml : m.length = l.length := by rw [← hm]; simp
    have e1 : spec_OpenGames.f (l.length + 2) m = some (whereP (fun x => x.f4 == 0) m m.length) := open_loop m (by omega) m.length (l.length + 2) 0 (by omega) (by omega)
    have e2 : impl_OpenGames.f m = some (whereP (fun x => x.f4 == 0) m m.length) := by unfold impl_OpenGames.f; rw [if_pos (by omega)]
    have hw := whereP_len (fun x : S90 => x.f4 == 0) m m.length
    generalize whereP (fun x : S90 => x.f4 == 0) m m.length = q at e1 e2 hw
    have eq := laws_eqGameS_eq m (by omega) (l.length + 2) (by omega)
    have eqi := eqIntS_eq q (by omega) (l.length + 2) (by omega)
    have eqi' := eqIntS_eq q (by omega) (l.length + 1) (by omega)
    obtain ⟨L, eM⟩ := markGameS_eq m (by omega) (l.length + 2) (by omega)
    have mk := markIntS_eq q (by omega) (l.length + 1) (by omega)
    have hd := heldIntS_eq q.length (by omega) (l.length + 1) (by omega)
    have n1 : ¬ (1 + 5 * (m.length : Int) < 0) := by omega
    have n2 : ¬ (1 + (q.length : Int) < 0) := by omega
    rw [if_neg h1]
    simp only [Option.bind_some, h1, if_false, e, e', e1, e2, eq, eqi, eqi', eM, if_true, laws_FnExactOpenGames.j0, mk, hd, n1, n2, Bool.not_true, Bool.false_eq_true]

end Go.Proofs.Ytkaaajbnkbnefaa.Pure
