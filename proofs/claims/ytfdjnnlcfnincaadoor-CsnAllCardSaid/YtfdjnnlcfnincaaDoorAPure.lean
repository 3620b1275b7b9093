/- Plain laws of what csn and its reference compute: numbers' texts and back. -/
import Derived.Test.YtfdjnnlcfnincaaDoorDec
import Derived.Test.YtfdjnnlcfnincaaDoorAh11
import Derived.Test.YtfdjnnlcfnincaaDoorAh19
import Derived.Test.YtfdjnnlcfnincaaDoorA12
import Derived.Test.YtfdjnnlcfnincaaDoorA14
import Derived.Test.YtfdjnnlcfnincaaDoorA8
import Derived.Test.YtfdjnnlcfnincaaDoorA7
import Derived.Test.YtfdjnnlcfnincaaDoorA16
namespace Go.Proofs.YtfdjnnlcfnincaaDoor.A
open Go.RowKit Go.Proofs.YtfdjnnlcfnincaaDoorW.PrintWords Go.Proofs.YtfdjnnlcfnincaaDoorW.PrintLast Dec

theorem bt_at_app {s : ByteArray} {pre post : List UInt8} {c : UInt8} (h : BL s = pre ++ c :: post) : bt s (pre.length : Int) = (c.toNat : Int) := by
  have hl : s.size = (BL s).length := BL_len s
  have hlt : pre.length < s.size := by rw [hl, h]; simp
  have e : s[pre.length]'hlt = c := by
    show s.data[pre.length]'_ = c
    have : s.data.toList[pre.length]? = some c := by rw [show s.data.toList = pre ++ c :: post from h]; simp
    rw [Array.getElem?_toList] at this
    exact (Array.getElem?_eq_some_iff.1 this).2
  unfold bt
  rw [dif_pos (by simpa using hlt)]
  simp only [Int.toNat_natCast]
  rw [e]
theorem str_one (d : Nat) (_h : d < 256) : strOfNums [(d : Int)] = mkB [UInt8.ofNat d] := by
  simp [strOfNums, mkB]

theorem u64w (n : Int) : IntKind.u64.wrap n = n % 18446744073709551616 := by
  simp [IntKind.wrap, IntKind.signed, IntKind.bits]
theorem mkB_size (l : List UInt8) : (mkB l).size = l.length := by rw [BL_len, BL_mkB]
/-! ### the reference's digits -/
theorem digits_l0 : ∀ (k u : Nat) (a0 : Int) (suf : ByteArray), 1 ≤ k → 0 ≤ a0 → u < 10 ^ k → u < 9223372036854775808 → suf.size + k ≤ 1000000 →
    brookref1_Digits.l0 k a0 (u : Int) suf = some (mkB (D u ++ BL suf))
  | 0, u, a0, suf, h1, _, _, _, _ => by omega
  | k + 1, u, a0, suf, _, h0, h, hu, hs => by
    simp only [brookref1_Digits.l0]
    by_cases h10 : u < 10
    · rw [if_neg (by omega)]
      have e : (IntKind.u64.wrap (48 + (u : Int))) % 256 = ((48 + u : Nat) : Int) := by rw [u64w]; omega
      simp only [Option.bind_some, e]
      rw [str_one _ (by omega), mkB_size]
      rw [if_pos (by simp; omega), if_neg (by omega), D_small h10]
      exact congrArg some (BL_inj (by rw [BL_append, BL_mkB, BL_mkB]))
    · rw [if_pos (by omega)]
      have e : (IntKind.u64.wrap (48 + Int.tmod (u : Int) 10)) % 256 = ((48 + u % 10 : Nat) : Int) := by
        rw [Int.tmod_eq_emod_of_nonneg (by omega), u64w]
        omega
      have e2 : IntKind.u64.wrap (Int.tdiv (u : Int) 10) = ((u / 10 : Nat) : Int) := by
        rw [Int.tdiv_eq_ediv_of_nonneg (by omega), u64w]
        omega
      simp only [Option.bind_some, e, e2]
      rw [str_one _ (by omega), mkB_size]
      rw [if_pos (by simp; omega)]
      have hsz : (mkB [UInt8.ofNat (48 + u % 10)] ++ suf).size = suf.size + 1 := by rw [BL_len, BL_append, BL_mkB, BL_len suf, List.length_append]; simp; omega
      have hk : 1 ≤ k := by
        rcases Nat.eq_zero_or_pos k with rfl | h2
        · simp at h; omega
        · exact h2
      rw [digits_l0 k (u / 10) a0 _ hk h0 (by rw [Nat.pow_succ] at h; omega) (by omega) (by omega)]
      rw [BL_append, BL_mkB, D_step h10]
      simp
theorem digits_eval (k u : Nat) (hk : 20 ≤ k) (hk2 : k ≤ 1000) (h : u < 9223372036854775808) : brookref1_Digits.f (k + 1) (u : Int) = some (mkB (D u)) := by
  unfold brookref1_Digits.f
  rw [if_neg (by omega)]
  simp only [brookref1_Digits.j0]
  have e : IntKind.u64.wrap (u : Int) = (u : Int) := by rw [u64w]; omega
  rw [e, digits_l0 k u _ _ (by omega) (by omega) (Nat.lt_of_lt_of_le h (Nat.le_trans (by decide) (Nat.pow_le_pow_right (by decide) hk))) h (by show 0 + k ≤ _; omega)]
  simp [BL_mk]
/-! ### texts -/
def T (e n : Nat) : List UInt8 := D e ++ 46 :: D n
theorem D_short {u : Nat} (h : u < 9223372036854775808) : (D u).length ≤ 19 := D_length 19 u (by omega) (Nat.lt_of_lt_of_le h (by decide))
theorem textcsn_eval (k e n : Nat) (hk : 21 ≤ k) (hk2 : k ≤ 1000) (he : e < 9223372036854775808) (hn : n < 9223372036854775808) : brookref12_TextCsn.f k (e : Int) (n : Int) = some (mkB (T e n)) := by
  obtain ⟨k, rfl⟩ : ∃ m, k = m + 1 := ⟨k - 1, by omega⟩
  have h1 := D_short he
  have h2 := D_short hn
  unfold brookref12_TextCsn.f
  rw [digits_eval k e (by omega) (by omega) he, digits_eval k n (by omega) (by omega) hn]
  simp only [Option.bind_some]
  have hs : (mkB (D e) ++ (⟨#[46]⟩ : ByteArray)).size = (D e).length + 1 := by rw [BL_len, BL_append, BL_mkB, List.length_append]; rfl
  rw [if_pos (by rw [mkB_size]; omega), if_pos (by rw [hs, mkB_size]; omega)]
  congr 1
  exact BL_inj (by rw [BL_append, BL_append, BL_mkB, BL_mkB, BL_mkB]; simp [T, BL_mk])
theorem text_eval (e n : Nat) (he : e < 9223372036854775808) (hn : n < 9223372036854775808) : csn_Text.f (e : Int) (n : Int) = some (mkB (T e n)) := by
  have h1 := D_short he
  have h2 := D_short hn
  have hi : ∀ u : Nat, u < 9223372036854775808 → strconv_Itoa.f (u : Int) = some (mkB (D u)) := by
    intro u hu
    unfold strconv_Itoa.f
    rw [if_pos (by omega)]
    unfold Lib.itoa
    rw [if_neg (by omega)]
    rfl
  unfold csn_Text.f
  rw [hi e he, hi n hn]
  simp only [Option.bind_some]
  have hs : (mkB (D e) ++ (⟨#[46]⟩ : ByteArray)).size = (D e).length + 1 := by rw [BL_len, BL_append, BL_mkB, List.length_append]; rfl
  rw [if_pos (by rw [mkB_size]; omega), if_pos (by rw [hs, mkB_size]; omega)]
  congr 1
  exact BL_inj (by rw [BL_append, BL_append, BL_mkB, BL_mkB, BL_mkB]; simp [T, BL_mk])
theorem may_eval (a0 a1 : Int) : brookref12_MayCsn.f a0 a1 = some (decide (0 ≤ a0 ∧ a0 ≤ 4503599627370496 ∧ 0 ≤ a1 ∧ a1 ≤ 4503599627370496)) := by
  unfold brookref12_MayCsn.f
  by_cases h1 : 0 ≤ a0
  · by_cases h2 : a0 ≤ 4503599627370496
    · by_cases h3 : 0 ≤ a1 <;> simp [h1, h2, h3]
    · simp [h1, h2]
  · simp [h1]
theorem pmay_eval (a0 a1 : Int) : csn_May.f a0 a1 = some (decide (0 ≤ a0 ∧ a0 ≤ 4503599627370496 ∧ 0 ≤ a1 ∧ a1 ≤ 4503599627370496)) := by
  unfold csn_May.f csn_within.f
  by_cases h1 : 0 ≤ a0
  · by_cases h2 : a0 ≤ 4503599627370496
    · by_cases h3 : 0 ≤ a1 <;> simp [h1, h2, h3]
    · simp [h1, h2]
  · simp [h1]

/-! ### reading: what is good -/
def Good (l : List UInt8) (e n : Nat) : Prop := e ≤ 4503599627370496 ∧ n ≤ 4503599627370496 ∧ l = T e n
theorem dot_not (u : Nat) : (46 : UInt8) ∉ D u := D_nodot u 46 (by unfold Dig; decide)
theorem good_uniq {l : List UInt8} {e n e' n' : Nat} (h : Good l e n) (h' : Good l e' n') : e = e' ∧ n = n' := by
  obtain ⟨h1, h2⟩ := split_uniq (dot_not e) (dot_not e') (h.2.2.symm.trans h'.2.2)
  exact ⟨D_inj h1, D_inj h2⟩
theorem cut_eval (s : ByteArray) (hs : s.size ≤ 1000000) : ∃ x y g, strings_Cut.f s ⟨#[46]⟩ = some (x, y, g) ∧ x.size ≤ 1000000 ∧ y.size ≤ 1000000 ∧
    ((∃ a b, BL s = a ++ 46 :: b ∧ (46 : UInt8) ∉ a ∧ BL x = a ∧ BL y = b) ∨ ((46 : UInt8) ∉ BL s ∧ BL y = [])) := by
  have hi : stringslite_Index.f s ⟨#[46]⟩ = some (Lib.indexByte (BL s) 46) := rfl
  have hl := BL_len s
  unfold strings_Cut.f stringslite_Cut.f
  rw [hi]
  simp only [Option.bind_some]
  rcases split_first (BL s) 46 with ⟨a, b, hab, ha⟩ | hn
  · rw [hab, index_at b ha]
    rw [hab] at hl
    simp only [List.length_append, List.length_cons] at hl
    have hw : wrap64 ((a.length : Int) + ((⟨#[46]⟩ : ByteArray).size : Int)) = (a.length : Int) + 1 := by
      show wrap64 ((a.length : Int) + 1) = _
      unfold wrap64
      omega
    rw [hw, if_pos (by omega), if_pos (by omega), if_pos (by omega), if_pos (by omega), if_pos (by omega)]
    refine ⟨_, _, _, rfl, ?_, ?_, .inl ⟨a, b, rfl, ha, ?_, ?_⟩⟩
    · rw [BL_len, BL_extract]; simp only [List.length_take, List.length_drop]; rw [← BL_len]; omega
    · rw [BL_len, BL_extract]; simp only [List.length_take, List.length_drop]; rw [← BL_len]; omega
    · rw [BL_extract, hab]; simp
    · rw [BL_extract, hab]
      have : ((a.length : Int) + 1).toNat = a.length + 1 := by omega
      rw [this, hl, show (a ++ 46 :: b).drop (a.length + 1) = b by rw [List.drop_append]; simp]
      exact List.take_of_length_le (by omega)
  · rw [index_none hn, if_neg (by omega)]
    exact ⟨s, ⟨#[]⟩, false, rfl, hs, by show 0 ≤ _; omega, .inr ⟨hn, rfl⟩⟩
theorem read_good {s : ByteArray} {e n : Nat} (hs : s.size ≤ 1000000) (h : Good (BL s) e n) : csn_Read.f s = some ((e : Int), (n : Int), true) := by
  obtain ⟨x, y, g, hc, hx, hy, hcase⟩ := cut_eval s hs
  obtain ⟨he, hn, hl⟩ := h
  unfold csn_Read.f
  rw [hc]
  simp only [Option.bind_some]
  rw [if_pos ⟨by omega, by omega⟩]
  rcases hcase with ⟨a, b, hab, ha, hxa, hyb⟩ | ⟨hno, _⟩
  · obtain ⟨e1, e2⟩ := split_uniq (dot_not e) ha (hl.symm.trans hab)
    rw [show x.data.toList = D e from hxa.trans e1.symm, show y.data.toList = D n from hyb.trans e2.symm, atoi_D e (by omega), atoi_D n (by omega)]
    simp only [pmay_eval, Option.bind_some]
    rw [if_pos (by simp; omega), text_eval e n (by omega) (by omega)]
    simp only [Option.bind_some]
    have ht : ((mkB (T e n)).toList == s.toList) = true := by rw [toList_BL, toList_BL, BL_mkB, hl]; exact beq_self_eq_true _
    rw [ht]
    simp
  · exact absurd (by rw [hl]; simp [T]) hno
theorem read_bad {s : ByteArray} (hs : s.size ≤ 1000000) (h : ∀ e n, ¬ Good (BL s) e n) : csn_Read.f s = some (0, 0, false) := by
  obtain ⟨x, y, g, hc, hx, hy, _⟩ := cut_eval s hs
  unfold csn_Read.f
  rw [hc]
  simp only [Option.bind_some]
  rw [if_pos ⟨by omega, by omega⟩]
  cases hx : Lib.atoiAll x.data.toList with
  | ok v0 =>
    cases hy : Lib.atoiAll y.data.toList with
    | ok v1 =>
      simp only [pmay_eval, Option.bind_some]
      split
      · rename_i hm
        simp only [decide_eq_true_eq] at hm
        obtain ⟨e, rfl⟩ := Int.eq_ofNat_of_zero_le hm.1
        obtain ⟨n, rfl⟩ := Int.eq_ofNat_of_zero_le hm.2.2.1
        rw [text_eval e n (by omega) (by omega)]
        simp only [Option.bind_some]
        have ht : ((mkB (T e n)).toList == s.toList) = false := by
          rw [toList_BL, toList_BL, BL_mkB]
          rw [beq_eq_false_iff_ne]
          exact fun hh => h e n ⟨by omega, by omega, hh.symm⟩
        rw [ht]
        simp
      · rfl
    | _ => rfl
  | _ => rfl
/-! ### the reference reads -/
theorem dec_total (s : ByteArray) : ∀ (d k : Nat) (x4 x5 : Int), 0 ≤ x5 → 17 - x5 ≤ d → x5 ≤ s.size → d < k → s.size ≤ 1000000 → ∃ n i, brookref12_decimal.l0 k s x4 x5 = some (n, i) ∧ 0 ≤ i ∧ i ≤ s.size
  | 0, k, x4, x5, h0, hd, hs, hk, _ => by
    obtain ⟨k, rfl⟩ : ∃ m, k = m + 1 := ⟨k - 1, by omega⟩
    simp only [brookref12_decimal.l0]
    split
    · rw [if_neg (by omega)]
      exact ⟨_, _, rfl, h0, hs⟩
    · exact ⟨_, _, rfl, h0, hs⟩
  | d + 1, k, x4, x5, h0, hd, hs, hk, hz => by
    obtain ⟨k, rfl⟩ : ∃ m, k = m + 1 := ⟨k - 1, by omega⟩
    simp only [brookref12_decimal.l0]
    split
    · split
      · try rw [if_pos h0]
        split
        · split
          · have e : wrap64 (x5 + 1) = x5 + 1 := by unfold wrap64; omega
            rw [e]
            exact dec_total s d k _ (x5 + 1) (by omega) (by omega) (by omega) (by omega) hz
          · exact ⟨_, _, rfl, h0, hs⟩
        · exact ⟨_, _, rfl, h0, hs⟩
      · exact ⟨_, _, rfl, h0, hs⟩
    · exact ⟨_, _, rfl, h0, hs⟩
theorem w_step (acc n : Nat) (h1 : 48 ≤ n) (h2 : n ≤ 57) (h : acc < 100000000000000000) : wrap64 (wrap64 ((acc : Int) * 10) + ((n : Int) - 48) % 256) = ((acc * 10 + (n - 48) : Nat) : Int) := by
  unfold wrap64
  omega
theorem dec_run (s : ByteArray) (rest : List UInt8) (B : Nat) (hB : B < 100000000000000000) (hr : ∀ c r, rest = c :: r → ¬ Dig c) (l : List UInt8) : ∀ (pre : List UInt8) (acc k : Nat), BL s = pre ++ (l ++ rest) → (∀ c ∈ l, Dig c) → pre.length + l.length ≤ 16 → val acc l ≤ B →
    l.length < k → brookref12_decimal.l0 k s (acc : Int) (pre.length : Int) = some ((val acc l : Int), ((pre.length + l.length : Nat) : Int)) := by
  induction l with
  | nil =>
    intro pre acc k hs _ hp _ hk
    obtain ⟨k, rfl⟩ : ∃ m, k = m + 1 := ⟨k - 1, by simp at hk; omega⟩
    have hl := BL_len s
    rw [hs] at hl
    simp only [brookref12_decimal.l0]
    simp only [List.length_nil, Nat.add_zero] at hp ⊢
    cases rest with
    | nil =>
      rw [if_neg (by simp at hl; omega)]
      rfl
    | cons c r =>
      have hb := bt_at_app (s := s) (pre := pre) (post := r) (c := c) (by simpa using hs)
      have hc := hr c r rfl
      unfold Dig at hc
      rw [if_pos (by simp at hl; omega), if_pos (by omega), if_pos (by omega), hb]
      by_cases h48 : (c.toNat : Int) ≥ 48
      · rw [if_pos h48, if_neg (by omega)]
        rfl
      · rw [if_neg h48]
        rfl
  | cons c l ih =>
    intro pre acc k hs hd hp hv hk
    obtain ⟨k, rfl⟩ : ∃ m, k = m + 1 := ⟨k - 1, by simp at hk; omega⟩
    have hl := BL_len s
    rw [hs] at hl
    have hc := hd c List.mem_cons_self
    unfold Dig at hc
    have hb := bt_at_app (s := s) (pre := pre) (post := l ++ rest) (c := c) (by simpa using hs)
    have hle := val_le l (acc * 10 + (c.toNat - 48))
    rw [val_cons] at hv ⊢
    simp only [List.length_cons] at hp hk
    simp only [brookref12_decimal.l0]
    rw [if_pos (by simp at hl; omega), if_pos (by omega), if_pos (by omega), hb, if_pos (by omega), if_pos (by omega)]
    have e2 : wrap64 ((pre.length : Int) + 1) = (((pre ++ [c]).length : Nat) : Int) := by rw [List.length_append]; unfold wrap64; simp; omega
    rw [w_step acc c.toNat hc.1 hc.2 (by omega), e2, ih (pre ++ [c]) _ k (by rw [hs]; simp) (fun x hx => hd x (List.mem_cons_of_mem _ hx)) (by simp; omega) hv (by omega)]
    simp only [List.length_append, List.length_cons, List.length_nil]
    congr 3
    omega
theorem D_short16 {u : Nat} (h : u ≤ 4503599627370496) : (D u).length ≤ 16 := D_length 16 u (by omega) (Nat.lt_of_le_of_lt h (by decide))
theorem dec_D (s : ByteArray) (u : Nat) (rest : List UInt8) (hu : u ≤ 4503599627370496) (hs : BL s = D u ++ rest) (hr : ∀ c r, rest = c :: r → ¬ Dig c) (k : Nat) (hk : 17 ≤ k) : brookref12_decimal.f k s = some ((u : Int), ((D u).length : Int)) := by
  have h := dec_run s rest 4503599627370496 (by omega) hr (D u) [] 0 k (by simpa using hs) (D_dig u) (by simp; exact D_short16 hu) (by rw [D_val]; exact hu) (by have := D_short16 hu; omega)
  unfold brookref12_decimal.f
  simpa [D_val] using h
theorem rread_good {s : ByteArray} {e n : Nat} (hs : s.size ≤ 1000000) (h : Good (BL s) e n) (k : Nat) (hk : 22 ≤ k) (hk2 : k ≤ 1000) : brookref12_ReadCsn.f k s = some ((e : Int), (n : Int), true) := by
  obtain ⟨he, hn, hl⟩ := h
  have hlen := BL_len s
  rw [hl] at hlen
  have hsz : s.size = (D e).length + 1 + (D n).length := by rw [hlen]; simp [T]; omega
  unfold brookref12_ReadCsn.f
  rw [dec_D s e (46 :: D n) he hl (fun c r hc => by cases hc; unfold Dig; decide) k (by omega)]
  simp only [Option.bind_some]
  have hw : wrap64 (((D e).length : Int) + 1) = ((D e).length : Int) + 1 := by unfold wrap64; omega
  rw [hw, if_neg (by omega), if_pos (by omega), if_pos (by omega)]
  have hx : BL (s.extract (((D e).length : Int) + 1).toNat s.size) = D n := by
    rw [BL_extract, hl, show (((D e).length : Int) + 1).toNat = (D e).length + 1 by omega, T, show (D e ++ 46 :: D n).drop ((D e).length + 1) = D n by rw [List.drop_append]; simp]
    exact List.take_of_length_le (by omega)
  rw [dec_D _ n [] hn (by rw [hx]; simp) (fun c r hc => by cases hc) k (by omega)]
  simp only [Option.bind_some, may_eval]
  rw [if_pos (by simp; omega), textcsn_eval k e n (by omega) hk2 (by omega) (by omega)]
  simp only [Option.bind_some]
  rw [if_pos (by rw [toList_BL, toList_BL, BL_mkB, hl])]
theorem rread_bad {s : ByteArray} (hs : s.size ≤ 1000000) (h : ∀ e n, ¬ Good (BL s) e n) (k : Nat) (hk : 22 ≤ k) (hk2 : k ≤ 1000) : brookref12_ReadCsn.f k s = some (0, 0, false) := by
  obtain ⟨v0, i, hd, h0, h1⟩ := dec_total s 17 k 0 0 (by omega) (by omega) (by omega) (by omega) hs
  unfold brookref12_ReadCsn.f
  rw [show brookref12_decimal.f k s = some (v0, i) from hd]
  simp only [Option.bind_some]
  split
  · rfl
  · rename_i hge
    have hw : wrap64 (i + 1) = i + 1 := by unfold wrap64; omega
    rw [hw, if_pos (by omega), if_pos (by omega)]
    have hsz : (s.extract (i + 1).toNat s.size).size ≤ 1000000 := by rw [BL_len, BL_extract]; simp only [List.length_take]; omega
    obtain ⟨v1, j, hd2, _, _⟩ := dec_total (s.extract (i + 1).toNat s.size) 17 k 0 0 (by omega) (by omega) (by omega) (by omega) hsz
    rw [show brookref12_decimal.f k (s.extract (i + 1).toNat s.size) = some (v1, j) from hd2]
    simp only [Option.bind_some, may_eval]
    split
    · rename_i hm
      simp only [decide_eq_true_eq] at hm
      obtain ⟨e, rfl⟩ := Int.eq_ofNat_of_zero_le hm.1
      obtain ⟨n, rfl⟩ := Int.eq_ofNat_of_zero_le hm.2.2.1
      rw [textcsn_eval k e n (by omega) hk2 (by omega) (by omega)]
      simp only [Option.bind_some]
      rw [if_neg (by rw [toList_BL, toList_BL, BL_mkB]; exact fun hh => h e n ⟨by omega, by omega, hh.symm⟩)]
    · rfl
end Go.Proofs.YtfdjnnlcfnincaaDoor.A
