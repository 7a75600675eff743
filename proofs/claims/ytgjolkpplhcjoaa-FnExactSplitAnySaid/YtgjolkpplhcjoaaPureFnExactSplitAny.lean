/- Whatever the two texts: SplitAny of the program and of the reference answer alike, in memory of its own at each call; no condition beyond the form's own reach. -/
import Derived.Test.YtgjolkpplhcjoaaSayFnExactSplitAny
import Derived.Test.YtgjolkpplhcjoaaPureKit
namespace Go.Proofs.Ytgjolkpplhcjoaa.Pure
open Go.RowKit Go.Proofs.Ytgjolkpplhcjoaa.MFnExactSplitAny Go.Proofs.Ytgjolkpplhcjoaa.PureKit Go.Proofs.YtgjolkpplhcjoaaW.PrintWords Go.Proofs.YtgjolkpplhcjoaaW.PrintLast
set_option linter.unusedSimpArgs false
set_option linter.unusedVariables false
theorem markText_loop (j : Nat) : ∀ (k : Nat) (x : Int) (acc : ByteArray), 0 ≤ x → x ≤ 4000000000 → x < 10 ^ j → j < k → acc.size + j ≤ 1000 → ∃ t, laws_markText.l0 k x acc = some t := by
  induction j with
  | zero =>
    intro k x acc h0 h9 h1 hk ha
    obtain ⟨k, rfl⟩ : ∃ m, k = m + 1 := ⟨k - 1, by omega⟩
    simp only [laws_markText.l0]
    rw [if_neg (by simp at h1; omega), if_pos (by omega)]
    exact ⟨_, rfl⟩
  | succ j ih =>
    intro k x acc h0 h9 h1 hk ha
    obtain ⟨k, rfl⟩ : ∃ m, k = m + 1 := ⟨k - 1, by omega⟩
    simp only [laws_markText.l0, Option.bind_some]
    by_cases hx : x > 0
    · rw [if_pos hx]
      have hs : ∀ z : Int, (strOfNums [z]).size = 1 := fun z => by rfl
      rw [hs, if_pos (by omega)]
      have hp : x < 10 * 10 ^ j := by rw [Int.pow_succ] at h1; omega
      have hq : Int.tdiv x 10 = x / 10 := Int.tdiv_eq_ediv_of_nonneg h0
      have hlt : x / 10 < 10 ^ j := by omega
      rw [hq, wrap_id (x := x / 10) (by omega) (by omega)]
      exact ih k (x / 10) _ (by omega) (by omega) hlt (by omega) (by rw [ByteArray.size_append, hs]; omega)
    · rw [if_neg hx, if_pos (by omega)]
      exact ⟨_, rfl⟩
noncomputable def markT (m : Int) : ByteArray := (laws_markText.f 60 m).getD ByteArray.empty
theorem markT_eq (m : Int) (h0 : 0 ≤ m) (h1 : m ≤ 4000000000) (k : Nat) (hk : 60 ≤ k) : laws_markText.f k m = some (markT m) := by
  have h60 : ∃ t, laws_markText.f 60 m = some t := by
    unfold laws_markText.f
    by_cases hm : m ≤ 0
    · rw [if_pos hm]; exact ⟨_, rfl⟩
    · rw [if_neg hm]
      exact markText_loop 20 60 m _ h0 h1 (by omega) (by omega) (by decide)
  obtain ⟨t, ht⟩ := h60
  have : markT m = t := by unfold markT; rw [ht]; rfl
  rw [this]
  exact at_rounds (g := fun k => laws_markText.f k m) (fun k => laws_markText.mono m k) hk ht
noncomputable def marksT (m : Int) (n : Nat) : List ByteArray := (List.range n).map (fun j : Nat => markT (m + (j : Int)))
theorem marksT_succ (m : Int) (n : Nat) : marksT m (n + 1) = markT m :: marksT (m + 1) n := by
  unfold marksT
  rw [List.range_succ_eq_map, List.map_cons, List.map_map]
  congr 1
  · simp
  · apply List.map_congr_left; intro j _; simp only [Function.comp]; congr 1; omega
theorem marksT_len (m : Int) (n : Nat) : (marksT m n).length = n := by simp [marksT]
theorem markStringS_loop (n : Nat) (hn : n ≤ 1000000000) (d : Nat) : ∀ (k i : Nat) (l : List ByteArray) (m : Int), l.length = n → i + d = n → d + 60 < k → 0 ≤ m → m + d ≤ 4000000000 →
    laws_markStringS.l0 k l m i = some (m + d, l.take i ++ marksT m d) := by
  induction d with
  | zero =>
    intro k i l m hl hd hk _ _
    obtain ⟨k, rfl⟩ : ∃ m, k = m + 1 := ⟨k - 1, by omega⟩
    simp only [laws_markStringS.l0]
    rw [if_neg (by omega), List.take_of_length_le (by omega)]
    simp [marksT]
  | succ d ih =>
    intro k i l m hl hd hk h0 hm
    obtain ⟨k, rfl⟩ : ∃ m, k = m + 1 := ⟨k - 1, by omega⟩
    simp only [laws_markStringS.l0]
    rw [if_pos (by omega), markT_eq m h0 (by omega) k (by omega)]
    simp only [Option.bind_some]
    rw [if_pos (by omega), wrap_succ (show i < n by omega) (by omega), wrap_id (x := m + 1) (by omega) (by omega), Int.toNat_natCast, ih k (i + 1) _ (m + 1) (by simp [hl]) (by omega) (by omega) (by omega) (by omega)]
    rw [marksT_succ]
    have e : (l.set i (markT m)).take (i + 1) = l.take i ++ [markT m] := by
      rw [take_step _ i (by simp; omega)]
      congr 1
      · apply List.ext_getElem?
        intro j
        by_cases hj : j < i
        · rw [List.getElem?_take_of_lt hj, List.getElem?_take_of_lt hj, List.getElem?_set_ne (by omega)]
        · rw [List.getElem?_eq_none (by simp; omega), List.getElem?_eq_none (by simp; omega)]
      · simp
    rw [e, List.append_assoc]
    congr 2
    omega
theorem markStringS_eq (l : List ByteArray) (hn : l.length ≤ 1000000000) (k : Nat) (hk : l.length + 60 < k) : laws_markStringS.f k l 1 = some (1 + (l.length : Int), marksT 1 l.length) := by
  unfold laws_markStringS.f
  have := markStringS_loop l.length hn l.length k 0 l 1 rfl (by omega) hk (by omega) (by omega)
  simpa using this
theorem heldStringS_loop (L : List ByteArray) (n : Nat) (hL : L.length = n) (hn : n ≤ 1000000000) (d : Nat) : ∀ (k i : Nat) (m : Int), i + d = n → d + 60 < k → 0 ≤ m → m + d ≤ 4000000000 → L.drop i = marksT m d →
    laws_heldStringS.l0 k L m i = some (m + d) := by
  induction d with
  | zero =>
    intro k i m hd hk _ _ _
    obtain ⟨k, rfl⟩ : ∃ m, k = m + 1 := ⟨k - 1, by omega⟩
    simp only [laws_heldStringS.l0]
    rw [if_neg (by omega)]
    simp
  | succ d ih =>
    intro k i m hd hk h0 hm hdr
    obtain ⟨k, rfl⟩ : ∃ m, k = m + 1 := ⟨k - 1, by omega⟩
    have hi : i < L.length := by omega
    rw [List.drop_eq_getElem_cons hi, marksT_succ, List.cons.injEq] at hdr
    simp only [laws_heldStringS.l0]
    rw [if_pos (by omega), if_pos (by omega), markT_eq m h0 (by omega) k (by omega)]
    simp only [Option.bind_some]
    rw [rdOf_nat _ L i hi, hdr.1, if_pos rfl, wrap_succ (show i < n by omega) (by omega), wrap_id (x := m + 1) (by omega) (by omega), ih k (i + 1) (m + 1) (by omega) (by omega) (by omega) (by omega) hdr.2]
    congr 1
    omega
theorem heldStringS_eq (n : Nat) (hn : n ≤ 1000000000) (k : Nat) (hk : n + 60 < k) : laws_heldStringS.f k (marksT 1 n) 1 = some (1 + (n : Int)) := by
  unfold laws_heldStringS.f
  exact heldStringS_loop (marksT 1 n) n (marksT_len 1 n) hn n k 0 1 (by omega) hk (by omega) (by omega) rfl
theorem eqStringS_loop (x : List ByteArray) (hn : x.length ≤ 9223372036854775807) (d : Nat) : ∀ (k i : Nat), i + d = x.length → d < k → laws_eqStringS.l0 k x x i = some true := by
  induction d with
  | zero =>
    intro k i hd hk
    obtain ⟨k, rfl⟩ : ∃ m, k = m + 1 := ⟨k - 1, by omega⟩
    simp only [laws_eqStringS.l0]
    rw [if_neg (by omega)]
  | succ d ih =>
    intro k i hd hk
    obtain ⟨k, rfl⟩ : ∃ m, k = m + 1 := ⟨k - 1, by omega⟩
    simp only [laws_eqStringS.l0]
    rw [if_pos (by omega), if_pos (by omega), if_pos (by omega), if_pos trivial, wrap_succ (show i < x.length by omega) hn]
    exact ih k (i + 1) (by omega) (by omega)
theorem eqStringS_eq (x : List ByteArray) (hn : x.length ≤ 9223372036854775807) (k : Nat) (hk : x.length < k) : laws_eqStringS.f k x x = some true := by
  unfold laws_eqStringS.f
  rw [if_pos rfl]
  exact eqStringS_loop x hn x.length k 0 (by omega) hk
theorem indexByte_mem (l : List UInt8) (c : UInt8) : (0 ≤ Lib.indexByte l c) ↔ c ∈ l := by
  induction l with
  | nil => simp [Lib.indexByte]
  | cons b l ih =>
    have hg := Lib.indexByte_ge l c
    by_cases h : b = c
    · subst h; simp [Lib.indexByte]
    · have h' : ¬ c = b := fun e => h e.symm
      simp only [Lib.indexByte, beq_iff_eq, h, if_false, List.mem_cons, h', false_or, ← ih]
      by_cases h1 : Lib.indexByte l c = -1
      · simp [h1]
      · simp only [h1, if_false]
        omega
/-- The parts of s from byte i on (d bytes): cut at the bytes of which p holds. -/
def splitGo (s : ByteArray) (p : Int → Bool) : Nat → Nat → Nat → List ByteArray → List ByteArray
  | 0, _, from_, acc => acc ++ [s.extract from_ s.size]
  | d + 1, i, from_, acc => if p (bt s i) = true then splitGo s p d (i + 1) (i + 1) (acc ++ [s.extract from_ i]) else splitGo s p d (i + 1) from_ acc
theorem splitGo_len (s : ByteArray) (p : Int → Bool) (d : Nat) : ∀ (i f : Nat) (acc : List ByteArray), (splitGo s p d i f acc).length ≤ acc.length + d + 1 := by
  induction d with
  | zero => intro i f acc; simp [splitGo]
  | succ d ih =>
    intro i f acc
    simp only [splitGo]
    split
    · exact Nat.le_trans (ih _ _ _) (by simp; omega)
    · exact Nat.le_trans (ih _ _ _) (by omega)
def inBy (by_ : ByteArray) (x : Int) : Bool := decide (x ∈ bytesOf by_)
theorem bytes_get (s : ByteArray) (i : Nat) (h : i < s.size) : (bytesOf s)[i]? = some (bt s i) := by
  have hl : i < (bytesOf s).length := by rw [bytesOf_length]; exact h
  rw [List.getElem?_eq_getElem hl]
  congr 1
  have := rd_bytesOf s i
  rw [rd_nat _ i hl] at this
  exact this
theorem index_in (s b : ByteArray) (i : Nat) (h : i < s.size) : (internal_stringslite_IndexByte_v b (bt s i) ≥ 0) ↔ inBy b (bt s i) = true := by
  unfold internal_stringslite_IndexByte_v inBy
  rw [ge_iff_le, indexByte_mem, decide_eq_true_eq]
  have hb : bt s i = ((s[i]'h).toNat : Int) := by rw [← bt_at s i (by simpa using h)]; simp
  rw [hb]
  unfold bytesOf
  rw [List.mem_map]
  constructor
  · intro hm
    refine ⟨_, hm, ?_⟩
    simp
  · rintro ⟨x, hx, e⟩
    have : x = s[i]'h := by
      apply UInt8.toNat_inj.1
      exact Int.ofNat.inj e
    rw [← this]
    simpa using hx
theorem implSplit_loop (s b : ByteArray) (hs : s.size ≤ 1048576) (d : Nat) : ∀ (k i f : Nat) (acc : List ByteArray), i + d = s.size → f ≤ i → acc.length ≤ i → d < k →
    impl_SplitAny.l0 k s b acc f s.size i = some (splitGo s (inBy b) d i f acc) := by
  induction d with
  | zero =>
    intro k i f acc hd hf ha hk
    obtain ⟨k, rfl⟩ : ∃ m, k = m + 1 := ⟨k - 1, by omega⟩
    simp only [impl_SplitAny.l0, splitGo]
    rw [if_neg (by omega), if_pos (by omega), if_pos (by omega), if_pos (by omega), Int.toNat_natCast]
  | succ d ih =>
    intro k i f acc hd hf ha hk
    obtain ⟨k, rfl⟩ : ∃ m, k = m + 1 := ⟨k - 1, by omega⟩
    have hi : i < s.size := by omega
    simp only [impl_SplitAny.l0, splitGo, strings_IndexByte.f, stringslite_IndexByte.f, Option.bind_some]
    rw [if_pos (by omega), if_pos (by omega), if_pos (by omega)]
    by_cases c : inBy b (bt s i) = true
    · rw [if_pos ((index_in s b i hi).2 c), if_pos (by omega), if_pos (by omega), if_pos (by omega), if_pos (by omega), if_pos c, wrap_succ hi (by omega), Int.toNat_natCast, Int.toNat_natCast]
      exact ih k (i + 1) (i + 1) _ (by omega) (by omega) (by simp; omega) (by omega)
    · rw [if_neg (fun h => c ((index_in s b i hi).1 h)), if_neg c, wrap_succ hi (by omega)]
      exact ih k (i + 1) f acc (by omega) (by omega) (by omega) (by omega)
theorem specSplit_inner (s b : ByteArray) (hs : s.size ≤ 1048576) (hb : b.size ≤ 1048576) (i f : Nat) (acc : List ByteArray) (hi : i < s.size) (hf : f ≤ i) (ha : acc.length ≤ i) (B : Nat) (RA RB : List ByteArray)
    (hA : ∀ k, B ≤ k → spec_SplitAny.l0 k s b (acc ++ [s.extract f i]) (i + 1 : Nat) (i + 1 : Nat) = some RA) (hB : ∀ k, B ≤ k → spec_SplitAny.l0 k s b acc f (i + 1 : Nat) = some RB) (e : Nat) :
    ∀ (k j : Nat), j + e = b.size → B + e < k → spec_SplitAny.l1 k s b acc f i j = some (if bt s i ∈ (bytesOf b).drop j then RA else RB) := by
  induction e with
  | zero =>
    intro k j he hk
    obtain ⟨k, rfl⟩ : ∃ m, k = m + 1 := ⟨k - 1, by omega⟩
    simp only [spec_SplitAny.l1]
    rw [if_neg (by omega), wrap_succ hi (by omega), hB k (by omega), List.drop_of_length_le (by rw [bytesOf_length]; omega), if_neg (by simp)]
  | succ e ih =>
    intro k j he hk
    obtain ⟨k, rfl⟩ : ∃ m, k = m + 1 := ⟨k - 1, by omega⟩
    have hj : j < b.size := by omega
    have hjl : j < (bytesOf b).length := by rw [bytesOf_length]; exact hj
    have hg : (bytesOf b)[j] = bt b j := by
      have := bytes_get b j hj
      rw [List.getElem?_eq_getElem hjl] at this
      exact Option.some.inj this
    have hm : bt s i ∈ (bytesOf b).drop j ↔ bt s i = bt b j ∨ bt s i ∈ (bytesOf b).drop (j + 1) := by rw [List.drop_eq_getElem_cons hjl, List.mem_cons, hg]
    simp only [spec_SplitAny.l1]
    rw [if_pos (by omega), if_pos (by omega), if_pos (by omega), if_pos (by omega)]
    by_cases c : bt s i = bt b j
    · rw [if_pos c, if_pos (by omega), if_pos (by omega), if_pos (by omega), if_pos (by omega), wrap_succ hi (by omega), Int.toNat_natCast, Int.toNat_natCast, hA k (by omega), if_pos (hm.2 (Or.inl c))]
    · rw [if_neg c, wrap_succ hj (by omega), ih k (j + 1) (by omega) (by omega)]
      by_cases c2 : bt s i ∈ (bytesOf b).drop (j + 1)
      · rw [if_pos c2, if_pos (hm.2 (Or.inr c2))]
      · rw [if_neg c2, if_neg (fun h => (hm.1 h).elim c c2)]
theorem specSplit_loop (s b : ByteArray) (hs : s.size ≤ 1048576) (hb : b.size ≤ 1048576) (d : Nat) : ∀ (k i f : Nat) (acc : List ByteArray), i + d = s.size → f ≤ i → acc.length ≤ i → (d + 1) * (b.size + 3) ≤ k →
    spec_SplitAny.l0 k s b acc f i = some (splitGo s (inBy b) d i f acc) := by
  induction d with
  | zero =>
    intro k i f acc hd hf ha hk
    obtain ⟨k, rfl⟩ : ∃ m, k = m + 1 := ⟨k - 1, by omega⟩
    simp only [spec_SplitAny.l0, splitGo]
    rw [if_neg (by omega), if_pos (by omega), if_pos (by omega), if_pos (by omega), Int.toNat_natCast]
  | succ d ih =>
    intro k i f acc hd hf ha hk
    have hi : i < s.size := by omega
    have hk' : (d + 1) * (b.size + 3) + (b.size + 3) ≤ k := by rw [Nat.succ_mul (d + 1)] at hk; exact hk
    obtain ⟨k, rfl⟩ : ∃ m, k = m + 1 := ⟨k - 1, by omega⟩
    simp only [spec_SplitAny.l0, splitGo]
    rw [if_pos (by omega)]
    have h := specSplit_inner s b hs hb i f acc hi hf ha ((d + 1) * (b.size + 3)) _ _ (fun k hk => ih k (i + 1) (i + 1) (acc ++ [s.extract f i]) (by omega) (by omega) (by simp; omega) hk) (fun k hk => ih k (i + 1) f acc (by omega) (by omega) (by omega) hk) b.size k 0 (by omega) (by omega)
    rw [List.drop_zero] at h
    rw [show ((0 : Nat) : Int) = 0 from rfl] at h
    rw [h]
    unfold inBy
    by_cases c : bt s i ∈ bytesOf b
    · rw [if_pos c, if_pos (decide_eq_true c)]
    · rw [if_neg c, if_neg (by simpa using c)]
theorem FnExactSplitAny : FnExactSplitAny_pure := by
  intro s b _ _
  refine ⟨(s.size + 1) * (b.size + 3) + s.size + 100, ?_⟩
  unfold laws_FnExactSplitAny.f
  by_cases h1 : (s.size : Int) > 1048576
  · rw [if_pos h1]
  · rw [if_neg h1]
    by_cases h2 : (b.size : Int) > 1048576
    · rw [if_pos h2]
    · rw [if_neg h2]
      generalize hK : (s.size + 1) * (b.size + 3) + s.size + 100 = K
      have hq := splitGo_len s (inBy b) s.size 0 0 []
      have e1 : spec_SplitAny.f K s b = some (splitGo s (inBy b) s.size 0 0 []) := specSplit_loop s b (by omega) (by omega) s.size K 0 0 [] (by omega) (by omega) (by simp) (by omega)
      have e2 : impl_SplitAny.f K s b = some (splitGo s (inBy b) s.size 0 0 []) := implSplit_loop s b (by omega) s.size K 0 0 [] (by omega) (by omega) (by simp) (by omega)
      generalize splitGo s (inBy b) s.size 0 0 [] = q at e1 e2 hq
      simp only [List.length_nil, Nat.zero_add] at hq
      have eqs := eqStringS_eq q (by omega) K (by omega)
      have mk := markStringS_eq q (by omega) K (by omega)
      have hd := heldStringS_eq q.length (by omega) K (by omega)
      have n2 : ¬ (1 + (q.length : Int) < 0) := by omega
      simp only [Option.bind_some, e1, e2, eqs, mk, hd, n2, if_true, if_false]

end Go.Proofs.Ytgjolkpplhcjoaa.Pure
