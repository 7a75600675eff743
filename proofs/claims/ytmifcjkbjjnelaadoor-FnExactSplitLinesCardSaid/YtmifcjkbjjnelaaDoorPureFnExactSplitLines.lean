/- Whatever the text: SplitLines of the program and of the reference answer alike, in memory of its own at each call; no condition beyond the form's own reach. -/
import Derived.Test.YtmifcjkbjjnelaaDoorSayFnExactSplitLines
import Derived.Test.YtmifcjkbjjnelaaDoorPureKit
namespace Go.Proofs.YtmifcjkbjjnelaaDoor.Pure
open Go.RowKit Go.Proofs.YtmifcjkbjjnelaaDoor.MFnExactSplitLines Go.Proofs.YtmifcjkbjjnelaaDoor.PureKit Go.Proofs.YtmifcjkbjjnelaaDoorW.PrintWords Go.Proofs.YtmifcjkbjjnelaaDoorW.PrintLast
set_option linter.unusedSimpArgs false
set_option linter.unusedVariables false
theorem markText_loop (j : Nat) : ∀ (k : Nat) (x : Int) (acc : ByteArray), 0 ≤ x → x ≤ 4000000000 → x < 10 ^ j → j < k → acc.size + j ≤ 1000 → ∃ t, laws_markText.l0 k x acc = some t := by
  induction j with
  | zero =>
    intro k x acc h0 h9 h1 hk ha
    obtain ⟨k, rfl⟩ : ∃ m, k = m + 1 := ⟨k - 1, by omega⟩
    simp only [laws_markText.l0]
    rw [if_neg (by simp at h1; omega), if_pos (by omega)]
    exact ⟨_, rfl⟩
  | succ j ih =>
    intro k x acc h0 h9 h1 hk ha
    obtain ⟨k, rfl⟩ : ∃ m, k = m + 1 := ⟨k - 1, by omega⟩
    simp only [laws_markText.l0, Option.bind_some]
    by_cases hx : x > 0
    · rw [if_pos hx]
      have hs : ∀ z : Int, (strOfNums [z]).size = 1 := fun z => by rfl
      rw [hs, if_pos (by omega)]
      have hp : x < 10 * 10 ^ j := by rw [Int.pow_succ] at h1; omega
      have hq : Int.tdiv x 10 = x / 10 := Int.tdiv_eq_ediv_of_nonneg h0
      have hlt : x / 10 < 10 ^ j := by omega
      rw [hq, wrap_id (x := x / 10) (by omega) (by omega)]
      exact ih k (x / 10) _ (by omega) (by omega) hlt (by omega) (by rw [ByteArray.size_append, hs]; omega)
    · rw [if_neg hx, if_pos (by omega)]
      exact ⟨_, rfl⟩
noncomputable def markT (m : Int) : ByteArray := (laws_markText.f 60 m).getD ByteArray.empty
theorem markT_eq (m : Int) (h0 : 0 ≤ m) (h1 : m ≤ 4000000000) (k : Nat) (hk : 60 ≤ k) : laws_markText.f k m = some (markT m) := by
  have h60 : ∃ t, laws_markText.f 60 m = some t := by
    unfold laws_markText.f
    by_cases hm : m ≤ 0
    · rw [if_pos hm]; exact ⟨_, rfl⟩
    · rw [if_neg hm]
      exact markText_loop 20 60 m _ h0 h1 (by omega) (by omega) (by decide)
  obtain ⟨t, ht⟩ := h60
  have : markT m = t := by unfold markT; rw [ht]; rfl
  rw [this]
  exact at_rounds (g := fun k => laws_markText.f k m) (fun k => laws_markText.mono m k) hk ht
noncomputable def marksT (m : Int) (n : Nat) : List ByteArray := (List.range n).map (fun j : Nat => markT (m + (j : Int)))
theorem marksT_succ (m : Int) (n : Nat) : marksT m (n + 1) = markT m :: marksT (m + 1) n := by
  unfold marksT
  rw [List.range_succ_eq_map, List.map_cons, List.map_map]
  congr 1
  · simp
  · apply List.map_congr_left; intro j _; simp only [Function.comp]; congr 1; omega
theorem marksT_len (m : Int) (n : Nat) : (marksT m n).length = n := by simp [marksT]
theorem markStringS_loop (n : Nat) (hn : n ≤ 1000000000) (d : Nat) : ∀ (k i : Nat) (l : List ByteArray) (m : Int), l.length = n → i + d = n → d + 60 < k → 0 ≤ m → m + d ≤ 4000000000 →
    laws_markStringS.l0 k l m i = some (m + d, l.take i ++ marksT m d) := by
  induction d with
  | zero =>
    intro k i l m hl hd hk _ _
    obtain ⟨k, rfl⟩ : ∃ m, k = m + 1 := ⟨k - 1, by omega⟩
    simp only [laws_markStringS.l0]
    rw [if_neg (by omega), List.take_of_length_le (by omega)]
    simp [marksT]
  | succ d ih =>
    intro k i l m hl hd hk h0 hm
    obtain ⟨k, rfl⟩ : ∃ m, k = m + 1 := ⟨k - 1, by omega⟩
    simp only [laws_markStringS.l0]
    rw [if_pos (by omega), markT_eq m h0 (by omega) k (by omega)]
    simp only [Option.bind_some]
    rw [if_pos (by omega), wrap_succ (show i < n by omega) (by omega), wrap_id (x := m + 1) (by omega) (by omega), Int.toNat_natCast, ih k (i + 1) _ (m + 1) (by simp [hl]) (by omega) (by omega) (by omega) (by omega)]
    rw [marksT_succ]
    have e : (l.set i (markT m)).take (i + 1) = l.take i ++ [markT m] := by
      rw [take_step _ i (by simp; omega)]
      congr 1
      · apply List.ext_getElem?
        intro j
        by_cases hj : j < i
        · rw [List.getElem?_take_of_lt hj, List.getElem?_take_of_lt hj, List.getElem?_set_ne (by omega)]
        · rw [List.getElem?_eq_none (by simp; omega), List.getElem?_eq_none (by simp; omega)]
      · simp
    rw [e, List.append_assoc]
    congr 2
    omega
theorem markStringS_eq (l : List ByteArray) (hn : l.length ≤ 1000000000) (k : Nat) (hk : l.length + 60 < k) : laws_markStringS.f k l 1 = some (1 + (l.length : Int), marksT 1 l.length) := by
  unfold laws_markStringS.f
  have := markStringS_loop l.length hn l.length k 0 l 1 rfl (by omega) hk (by omega) (by omega)
  simpa using this
theorem heldStringS_loop (L : List ByteArray) (n : Nat) (hL : L.length = n) (hn : n ≤ 1000000000) (d : Nat) : ∀ (k i : Nat) (m : Int), i + d = n → d + 60 < k → 0 ≤ m → m + d ≤ 4000000000 → L.drop i = marksT m d →
    laws_heldStringS.l0 k L m i = some (m + d) := by
  induction d with
  | zero =>
    intro k i m hd hk _ _ _
    obtain ⟨k, rfl⟩ : ∃ m, k = m + 1 := ⟨k - 1, by omega⟩
    simp only [laws_heldStringS.l0]
    rw [if_neg (by omega)]
    simp
  | succ d ih =>
    intro k i m hd hk h0 hm hdr
    obtain ⟨k, rfl⟩ : ∃ m, k = m + 1 := ⟨k - 1, by omega⟩
    have hi : i < L.length := by omega
    rw [List.drop_eq_getElem_cons hi, marksT_succ, List.cons.injEq] at hdr
    simp only [laws_heldStringS.l0]
    rw [if_pos (by omega), if_pos (by omega), markT_eq m h0 (by omega) k (by omega)]
    simp only [Option.bind_some]
    rw [rdOf_nat _ L i hi, hdr.1, if_pos rfl, wrap_succ (show i < n by omega) (by omega), wrap_id (x := m + 1) (by omega) (by omega), ih k (i + 1) (m + 1) (by omega) (by omega) (by omega) (by omega) hdr.2]
    congr 1
    omega
theorem heldStringS_eq (n : Nat) (hn : n ≤ 1000000000) (k : Nat) (hk : n + 60 < k) : laws_heldStringS.f k (marksT 1 n) 1 = some (1 + (n : Int)) := by
  unfold laws_heldStringS.f
  exact heldStringS_loop (marksT 1 n) n (marksT_len 1 n) hn n k 0 1 (by omega) hk (by omega) (by omega) rfl
theorem eqStringS_loop (x : List ByteArray) (hn : x.length ≤ 9223372036854775807) (d : Nat) : ∀ (k i : Nat), i + d = x.length → d < k → laws_eqStringS.l0 k x x i = some true := by
  induction d with
  | zero =>
    intro k i hd hk
    obtain ⟨k, rfl⟩ : ∃ m, k = m + 1 := ⟨k - 1, by omega⟩
    simp only [laws_eqStringS.l0]
    rw [if_neg (by omega)]
  | succ d ih =>
    intro k i hd hk
    obtain ⟨k, rfl⟩ : ∃ m, k = m + 1 := ⟨k - 1, by omega⟩
    simp only [laws_eqStringS.l0]
    rw [if_pos (by omega), if_pos (by omega), if_pos (by omega), if_pos trivial, wrap_succ (show i < x.length by omega) hn]
    exact ih k (i + 1) (by omega) (by omega)
theorem eqStringS_eq (x : List ByteArray) (hn : x.length ≤ 9223372036854775807) (k : Nat) (hk : x.length < k) : laws_eqStringS.f k x x = some true := by
  unfold laws_eqStringS.f
  rw [if_pos rfl]
  exact eqStringS_loop x hn x.length k 0 (by omega) hk
/-- The parts of s from byte i on (d bytes): cut at the bytes of which p holds. -/
def splitGo (s : ByteArray) (p : Int → Bool) : Nat → Nat → Nat → List ByteArray → List ByteArray
  | 0, _, from_, acc => acc ++ [s.extract from_ s.size]
  | d + 1, i, from_, acc => if p (bt s i) = true then splitGo s p d (i + 1) (i + 1) (acc ++ [s.extract from_ i]) else splitGo s p d (i + 1) from_ acc
theorem splitGo_len (s : ByteArray) (p : Int → Bool) (d : Nat) : ∀ (i f : Nat) (acc : List ByteArray), (splitGo s p d i f acc).length ≤ acc.length + d + 1 := by
  induction d with
  | zero => intro i f acc; simp [splitGo]
  | succ d ih =>
    intro i f acc
    simp only [splitGo]
    split
    · exact Nat.le_trans (ih _ _ _) (by simp; omega)
    · exact Nat.le_trans (ih _ _ _) (by omega)
def inBy (by_ : ByteArray) (x : Int) : Bool := decide (x ∈ bytesOf by_)
theorem bytes_get (s : ByteArray) (i : Nat) (h : i < s.size) : (bytesOf s)[i]? = some (bt s i) := by
  have hl : i < (bytesOf s).length := by rw [bytesOf_length]; exact h
  rw [List.getElem?_eq_getElem hl]
  congr 1
  have := rd_bytesOf s i
  rw [rd_nat _ i hl] at this
  exact this
theorem specSplit_inner (s b : ByteArray) (hs : s.size ≤ 1048576) (hb : b.size ≤ 1048576) (i f : Nat) (acc : List ByteArray) (hi : i < s.size) (hf : f ≤ i) (ha : acc.length ≤ i) (B : Nat) (RA RB : List ByteArray)
    (hA : ∀ k, B ≤ k → spec_SplitAny.l0 k s b (acc ++ [s.extract f i]) (i + 1 : Nat) (i + 1 : Nat) = some RA) (hB : ∀ k, B ≤ k → spec_SplitAny.l0 k s b acc f (i + 1 : Nat) = some RB) (e : Nat) :
    ∀ (k j : Nat), j + e = b.size → B + e < k → spec_SplitAny.l1 k s b acc f i j = some (if bt s i ∈ (bytesOf b).drop j then RA else RB) := by
  induction e with
  | zero =>
    intro k j he hk
    obtain ⟨k, rfl⟩ : ∃ m, k = m + 1 := ⟨k - 1, by omega⟩
    simp only [spec_SplitAny.l1]
    rw [if_neg (by omega), wrap_succ hi (by omega), hB k (by omega), List.drop_of_length_le (by rw [bytesOf_length]; omega), if_neg (by simp)]
  | succ e ih =>
    intro k j he hk
    obtain ⟨k, rfl⟩ : ∃ m, k = m + 1 := ⟨k - 1, by omega⟩
    have hj : j < b.size := by omega
    have hjl : j < (bytesOf b).length := by rw [bytesOf_length]; exact hj
    have hg : (bytesOf b)[j] = bt b j := by
      have := bytes_get b j hj
      rw [List.getElem?_eq_getElem hjl] at this
      exact Option.some.inj this
    have hm : bt s i ∈ (bytesOf b).drop j ↔ bt s i = bt b j ∨ bt s i ∈ (bytesOf b).drop (j + 1) := by rw [List.drop_eq_getElem_cons hjl, List.mem_cons, hg]
    simp only [spec_SplitAny.l1]
    rw [if_pos (by omega), if_pos (by omega), if_pos (by omega), if_pos (by omega)]
    by_cases c : bt s i = bt b j
    · rw [if_pos c, if_pos (by omega), if_pos (by omega), if_pos (by omega), if_pos (by omega), wrap_succ hi (by omega), Int.toNat_natCast, Int.toNat_natCast, hA k (by omega), if_pos (hm.2 (Or.inl c))]
    · rw [if_neg c, wrap_succ hj (by omega), ih k (j + 1) (by omega) (by omega)]
      by_cases c2 : bt s i ∈ (bytesOf b).drop (j + 1)
      · rw [if_pos c2, if_pos (hm.2 (Or.inr c2))]
      · rw [if_neg c2, if_neg (fun h => (hm.1 h).elim c c2)]
theorem specSplit_loop (s b : ByteArray) (hs : s.size ≤ 1048576) (hb : b.size ≤ 1048576) (d : Nat) : ∀ (k i f : Nat) (acc : List ByteArray), i + d = s.size → f ≤ i → acc.length ≤ i → (d + 1) * (b.size + 3) ≤ k →
    spec_SplitAny.l0 k s b acc f i = some (splitGo s (inBy b) d i f acc) := by
  induction d with
  | zero =>
    intro k i f acc hd hf ha hk
    obtain ⟨k, rfl⟩ : ∃ m, k = m + 1 := ⟨k - 1, by omega⟩
    simp only [spec_SplitAny.l0, splitGo]
    rw [if_neg (by omega), if_pos (by omega), if_pos (by omega), if_pos (by omega), Int.toNat_natCast]
  | succ d ih =>
    intro k i f acc hd hf ha hk
    have hi : i < s.size := by omega
    have hk' : (d + 1) * (b.size + 3) + (b.size + 3) ≤ k := by rw [Nat.succ_mul (d + 1)] at hk; exact hk
    obtain ⟨k, rfl⟩ : ∃ m, k = m + 1 := ⟨k - 1, by omega⟩
    simp only [spec_SplitAny.l0, splitGo]
    rw [if_pos (by omega)]
    have h := specSplit_inner s b hs hb i f acc hi hf ha ((d + 1) * (b.size + 3)) _ _ (fun k hk => ih k (i + 1) (i + 1) (acc ++ [s.extract f i]) (by omega) (by omega) (by simp; omega) hk) (fun k hk => ih k (i + 1) f acc (by omega) (by omega) (by omega) hk) b.size k 0 (by omega) (by omega)
    rw [List.drop_zero] at h
    rw [show ((0 : Nat) : Int) = 0 from rfl] at h
    rw [h]
    unfold inBy
    by_cases c : bt s i ∈ bytesOf b
    · rw [if_pos c, if_pos (decide_eq_true c)]
    · rw [if_neg c, if_neg (by simpa using c)]
theorem size_list (s : ByteArray) : s.size = s.data.toList.length := by rw [Array.length_toList]; rfl
theorem bt_list (s : ByteArray) (i : Nat) (h : i < s.data.toList.length) : bt s (i : Int) = ((s.data.toList[i]).toNat : Int) := by
  have h' : (i : Int).toNat < s.size := by rw [Int.toNat_natCast]; simpa using h
  rw [← bt_at s i h']
  rfl
/-- The parts of a row of bytes, cut at each c; cur: what stands before. -/
def splitL (c : UInt8) : List UInt8 → List UInt8 → List (List UInt8)
  | [], cur => [cur]
  | b :: r, cur => if b = c then cur :: splitL c r [] else splitL c r (cur ++ [b])
theorem splitL_cut (c : UInt8) (a r : List UInt8) (h : c ∉ a) : ∀ cur, splitL c (a ++ c :: r) cur = (cur ++ a) :: splitL c r [] := by
  induction a with
  | nil => intro cur; simp [splitL]
  | cons b a ih =>
    intro cur
    rw [List.mem_cons, not_or] at h
    rw [List.cons_append, splitL, if_neg (fun e => h.1 e.symm), ih h.2]
    simp
theorem splitL_none (c : UInt8) (a : List UInt8) (h : c ∉ a) : ∀ cur, splitL c a cur = [cur ++ a] := by
  induction a with
  | nil => intro cur; simp [splitL]
  | cons b a ih =>
    intro cur
    rw [List.mem_cons, not_or] at h
    rw [splitL, if_neg (fun e => h.1 e.symm), ih h.2]
    simp
theorem first_byte (c : UInt8) (l : List UInt8) : (Lib.indexByte l c = -1 ∧ c ∉ l) ∨ ∃ a r, l = a ++ c :: r ∧ c ∉ a ∧ Lib.indexByte l c = (a.length : Int) := by
  induction l with
  | nil => exact Or.inl ⟨rfl, by simp⟩
  | cons b l ih =>
    by_cases h : b = c
    · subst h
      exact Or.inr ⟨[], l, rfl, by simp, by simp [Lib.indexByte]⟩
    · rcases ih with ⟨h1, h2⟩ | ⟨a, r, e, h1, h2⟩
      · refine Or.inl ⟨by simp [Lib.indexByte, h, h1], ?_⟩
        rw [List.mem_cons, not_or]
        exact ⟨fun e => h e.symm, h2⟩
      · refine Or.inr ⟨b :: a, r, by rw [e]; rfl, ?_, ?_⟩
        · rw [List.mem_cons, not_or]
          exact ⟨fun e => h e.symm, h1⟩
        · have : ¬ ((a.length : Int) = -1) := by omega
          simp [Lib.indexByte, h, h2, this]
theorem splitK_is (c : UInt8) (n : Nat) : ∀ l : List UInt8, l.length ≤ n → Lib.splitK [c] 0 (Lib.count l [c]) l = splitL c l [] := by
  induction n with
  | zero =>
    intro l hl
    have : l = [] := List.length_eq_zero_iff.1 (by omega)
    subst this
    rw [Lib.count_one]; rfl
  | succ n ih =>
    intro l hl
    rcases first_byte c l with ⟨h1, h2⟩ | ⟨a, r, e, h1, h2⟩
    · rw [splitL_none c l h2, Lib.count_one, List.count_eq_zero.2 h2]
      simp [Lib.splitK]
    · have hc : Lib.count l [c] = Lib.count r [c] + 1 := by
        rw [Lib.count_one, Lib.count_one, e, List.count_append, List.count_eq_zero.2 h1]
        simp
      have hlen : l.length = a.length + (r.length + 1) := by rw [e, List.length_append, List.length_cons]
      rw [hc, Lib.splitK, Lib.index_one, h2, if_neg (by simp), Int.toNat_natCast]
      have e1 : l.take (a.length + 0) = a := by rw [e]; simp
      have e2 : l.drop (a.length + [c].length) = r := by rw [e]; simp
      rw [e1, e2, ih r (by omega)]
      have := splitL_cut c a r h1 []
      rw [← e] at this
      rw [this, List.nil_append]
theorem extract_list (s : ByteArray) (a b : Nat) : (s.extract a b).data.toList = (s.data.toList.drop a).take (b - a) := by
  rw [ByteArray.data_extract, Array.toList_extract]
theorem splitGo_list (s : ByteArray) (c : UInt8) (d : Nat) : ∀ (i f : Nat) (acc : List ByteArray), i + d = s.size → f ≤ i →
    (splitGo s (inBy ⟨#[c]⟩) d i f acc).map (·.data.toList) = acc.map (·.data.toList) ++ splitL c (s.data.toList.drop i) ((s.data.toList.drop f).take (i - f)) := by
  have hz := size_list s
  induction d with
  | zero =>
    intro i f acc hd hf
    simp only [splitGo]
    rw [List.map_append, List.drop_of_length_le (by omega)]
    simp only [List.map_cons, List.map_nil, splitL]
    rw [extract_list, show s.size = i by omega]
  | succ d ih =>
    intro i f acc hd hf
    have hi : i < s.data.toList.length := by omega
    have hb := bt_list s i hi
    have hin : inBy ⟨#[c]⟩ (bt s i) = true ↔ s.data.toList[i] = c := by
      rw [hb]
      unfold inBy bytesOf
      rw [decide_eq_true_eq]
      simp only [List.map_cons, List.map_nil, List.mem_singleton]
      constructor
      · intro h
        apply UInt8.toNat_inj.1
        exact Int.ofNat.inj h
      · intro h; rw [h]
    simp only [splitGo]
    rw [List.drop_eq_getElem_cons hi]
    by_cases q : s.data.toList[i] = c
    · rw [if_pos (hin.2 q), ih (i + 1) (i + 1) _ (by omega) (by omega), splitL, if_pos q, List.map_append]
      simp [extract_list]
    · rw [if_neg (fun h => q (hin.1 h)), ih (i + 1) f acc (by omega) (by omega), splitL, if_neg q]
      congr 2
      have hj : i - f < (s.data.toList.drop f).length := by rw [List.length_drop]; omega
      rw [show i + 1 - f = (i - f) + 1 by omega, take_step _ _ hj, List.getElem_drop]
      simp only [show f + (i - f) = i by omega]
theorem lines_same (s : ByteArray) : splitGo s (inBy ⟨#[10]⟩) s.size 0 0 [] = Lib.splitB ⟨#[10]⟩ 0 (Lib.countB s ⟨#[10]⟩) s := by
  have h1 := splitGo_list s 10 s.size 0 0 [] (by omega) (by omega)
  have h2 := Lib.splitB_data ⟨#[10]⟩ 0 (Lib.countB s ⟨#[10]⟩) s
  have h3 := splitK_is 10 s.data.toList.length s.data.toList (Nat.le_refl _)
  refine (List.map_inj_right (f := fun x : ByteArray => x.data.toList) (fun x y h => WideShapes.bytes_inj h)).1 ?_
  rw [h1, h2]
  exact h3.symm
/-- The lines, the last one left out where it is empty. -/
def linesOf (q : List ByteArray) : List ByteArray := if (rdOf ByteArray.empty q ((q.length - 1 : Nat) : Int)).toList = [] then q.take (q.length - 1) else q
theorem linesOf_len (q : List ByteArray) : (linesOf q).length ≤ q.length := by
  unfold linesOf
  split
  · rw [List.length_take]; omega
  · exact Nat.le_refl _
theorem lines_tail (q : List ByteArray) (h0 : 0 < q.length) (h1 : q.length ≤ 9223372036854775807) : (if 0 ≤ (wrap64 ((q.length : Int) - 1)) then (if (wrap64 ((q.length : Int) - 1)) < (q.length : Int) then (if (rdOf ByteArray.empty q (wrap64 ((q.length : Int) - 1))).toList = ([] : List UInt8) then (if (wrap64 ((q.length : Int) - 1)) ≤ (q.length : Int) then (some (q.take ((wrap64 ((q.length : Int) - 1)) : Int).toNat)) else (none)) else (some q)) else (none)) else (none)) = some (linesOf q) := by
  have hw : wrap64 ((q.length : Int) - 1) = ((q.length - 1 : Nat) : Int) := by rw [wrap_id (by omega) (by omega)]; omega
  rw [hw, if_pos (by omega), if_pos (by omega), if_pos (show ((q.length - 1 : Nat) : Int) ≤ (q.length : Int) by omega), Int.toNat_natCast]
  unfold linesOf
  split
  · rfl
  · rfl
theorem FnExactSplitLines : FnExactSplitLines_pure := by
  intro s _
  refine ⟨(s.size + 1) * (1 + 3) + s.size + 100, ?_⟩
  unfold laws_FnExactSplitLines.f
  by_cases h1 : (s.size : Int) > 1048576
  · rw [if_pos h1]
  · rw [if_neg h1]
    generalize hK : (s.size + 1) * (1 + 3) + s.size + 100 = K
    have hq := splitGo_len s (inBy ⟨#[10]⟩) s.size 0 0 []
    have e1 : spec_SplitAny.f K s ⟨#[10]⟩ = some (splitGo s (inBy ⟨#[10]⟩) s.size 0 0 []) := specSplit_loop s ⟨#[10]⟩ (by omega) (by show 1 ≤ _; omega) s.size K 0 0 [] (by omega) (by omega) (by simp) (by show (s.size + 1) * (1 + 3) ≤ K; omega)
    have e2 : strings_Split.f s ⟨#[10]⟩ = some (splitGo s (inBy ⟨#[10]⟩) s.size 0 0 []) := by
      unfold strings_Split.f
      rw [if_pos ⟨by omega, by show 1 ≤ 1; omega⟩, lines_same]
    have hp : 0 < (splitGo s (inBy ⟨#[10]⟩) s.size 0 0 []).length := by
      rw [lines_same, Lib.splitB_all ⟨#[10]⟩ (by show 1 ≤ 1; omega) 0 _ s rfl]; omega
    generalize splitGo s (inBy ⟨#[10]⟩) s.size 0 0 [] = q at e1 e2 hq hp
    simp only [List.length_nil, Nat.zero_add] at hq
    have t := lines_tail q hp (by omega)
    have f1 : spec_SplitLines.f K s = some (linesOf q) := by
      unfold spec_SplitLines.f
      rw [e1, Option.bind_some]; exact t
    have f2 : impl_SplitLines.f s = some (linesOf q) := by
      unfold impl_SplitLines.f
      rw [e2, Option.bind_some]; exact t
    have hr := linesOf_len q
    generalize linesOf q = r at f1 f2 hr
    have eqs := eqStringS_eq r (by omega) K (by omega)
    have mk := markStringS_eq r (by omega) K (by omega)
    have hd := heldStringS_eq r.length (by omega) K (by omega)
    have n2 : ¬ (1 + (r.length : Int) < 0) := by omega
    simp only [Option.bind_some, f1, f2, eqs, mk, hd, n2, if_true, if_false]

end Go.Proofs.YtmifcjkbjjnelaaDoor.Pure
