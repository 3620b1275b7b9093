/- The plain laws CsnAll and CsnBack, over what was printed. -/
import Derived.Test.YtfdjnnlcfnincaaDoorAPure
import Derived.Test.YtfdjnnlcfnincaaDoorA5
import Derived.Test.YtfdjnnlcfnincaaDoorA4
namespace Go.Proofs.YtfdjnnlcfnincaaDoor.A
open Go.RowKit Go.Proofs.YtfdjnnlcfnincaaDoorW.PrintWords Go.Proofs.YtfdjnnlcfnincaaDoorW.PrintLast Dec

def cmpS (a0 a1 b0 b1 : Int) : Int := if a0 < b0 then -1 else if b0 < a0 then 1 else if a1 < b1 then -1 else if b1 < a1 then 1 else 0
theorem compare_eval (a b : Int) : cmp_Compare_int.f a b = some (if a < b then -1 else if b < a then 1 else 0) := by
  unfold cmp_Compare_int.f cmp_isNaN_int.f
  by_cases h : a < b
  · simp [h]
  · by_cases h2 : b < a <;> simp [h, h2]
theorem or_eval (k : Nat) (x y : Int) : cmp_Or_int.f (k + 3) [x, y] = some (if x = 0 then y else x) := by
  unfold cmp_Or_int.f
  simp only [cmp_Or_int.l0]
  by_cases hx : x = 0
  · by_cases hy : y = 0
    · subst hx; subst hy; simp [rd, wrap64]
    · subst hx; simp [rd, wrap64, hy]
  · simp [rd, hx]
theorem cmp_eval (k : Nat) (a0 a1 b0 b1 : Int) : csn_Cmp.f (k + 3) a0 a1 b0 b1 = some (cmpS a0 a1 b0 b1) := by
  unfold csn_Cmp.f
  rw [compare_eval, compare_eval]
  simp only [Option.bind_some]
  rw [or_eval]
  unfold cmpS
  by_cases h1 : a0 < b0
  · simp [h1]
  · by_cases h2 : b0 < a0 <;> simp [h1, h2]
theorem rcmp_eval (k : Nat) (a0 a1 b0 b1 : Int) : brookref12_Cmp.f (k + 1) a0 a1 b0 b1 = some (cmpS a0 a1 b0 b1) := by
  unfold brookref12_Cmp.f cmpS
  simp only [brookref12_Cmp.j0]
  by_cases h1 : a0 < b0
  · simp [h1]
  · by_cases h2 : a0 = b0
    · subst h2
      by_cases h3 : a1 < b1
      · simp [h3]
      · by_cases h4 : b1 < a1
        · have : ¬ a1 = b1 := by omega
          simp [h3, h4, this]
        · have : a1 = b1 := by omega
          simp [this]
    · have h3 : b0 < a0 := by omega
      simp [h1, h2, h3]
theorem awake_eval : brooklaw12_awake.f = some true := by
  unfold brooklaw12_awake.f csn_Next.f
  rw [show csn_Text.f 0 0 = some (mkB (T 0 0)) from text_eval 0 0 (by omega) (by omega)]
  simp only [Option.bind_some]
  have h : (mkB (T 0 0)).toList = ([48, 46, 48] : List UInt8) := by
    rw [toList_BL, BL_mkB]
    unfold T
    rw [D_small (by omega)]
    rfl
  rw [if_pos h]
  simp [wrap64]
theorem read_same (s : ByteArray) (hs : s.size ≤ 1000000) : ∃ r, csn_Read.f s = some r ∧ brookref12_ReadCsn.f 100 s = some r := by
  by_cases h : ∃ e n, Good (BL s) e n
  · obtain ⟨e, n, h⟩ := h
    exact ⟨_, read_good hs h, rread_good hs h 100 (by omega) (by omega)⟩
  · have h' : ∀ e n, ¬ Good (BL s) e n := fun e n hg => h ⟨e, n, hg⟩
    exact ⟨_, read_bad hs h', rread_bad hs h' 100 (by omega) (by omega)⟩

/-- THE LAW CsnAll. -/
theorem all_true (a0 a1 b0 b1 : Int) (s : ByteArray) (ep : Int) : ∃ k, brooklaw12_CsnAll.f k a0 a1 b0 b1 s ep = some true := by
  refine ⟨100, ?_⟩
  have hj1 : ∀ x, (x = true → True) → (x = false → 0 ≤ a0 ∧ a0 ≤ 4503599627370496 ∧ 0 ≤ a1 ∧ a1 ≤ 4503599627370496) → brooklaw12_CsnAll.j1 99 ep x a0 a1 = some true := by
    intro x _ hx
    simp only [brooklaw12_CsnAll.j1]
    cases x with
    | true => rw [if_pos rfl, awake_eval]; rfl
    | false =>
      obtain ⟨h1, h2, h3, h4⟩ := hx rfl
      obtain ⟨e, rfl⟩ := Int.eq_ofNat_of_zero_le h1
      obtain ⟨n, rfl⟩ := Int.eq_ofNat_of_zero_le h3
      rw [if_neg (by decide), text_eval e n (by omega) (by omega), textcsn_eval 98 e n (by omega) (by omega) (by omega) (by omega), awake_eval]
      simp [csn_Next.f, brookref12_Next.f]
  have hj0 : brooklaw12_CsnAll.j0 100 ep false a0 a1 = some true := by
    simp only [brooklaw12_CsnAll.j0]
    rw [if_neg (by decide), may_eval]
    simp only [Option.bind_some]
    split
    · rename_i hm
      simp only [decide_eq_true_eq] at hm
      split
      · exact hj1 _ (fun _ => trivial) (fun h => by cases h)
      · exact hj1 _ (fun _ => trivial) (fun _ => hm)
    · exact hj1 _ (fun _ => trivial) (fun h => by cases h)
  unfold brooklaw12_CsnAll.f
  split
  · rw [awake_eval]; rfl
  · obtain ⟨r, h1, h2⟩ := read_same s (by omega)
    rw [h1, h2]
    simp only [Option.bind_some, pmay_eval, may_eval]
    rw [if_neg (by simp), cmp_eval 97, rcmp_eval 99]
    simp only [Option.bind_some, if_true]
    rw [if_neg (by simp)]
    simpa using hj0

theorem good_parts {a b : List UInt8} {e n : Nat} (ha : (46 : UInt8) ∉ a) (h : Good (a ++ 46 :: b) e n) : D e = a ∧ D n = b ∧ e ≤ 4503599627370496 :=
  have h2 := split_uniq (dot_not e) ha h.2.2.symm
  ⟨h2.1, h2.2, h.1⟩
theorem not_dig_mem {u : Nat} {c : UInt8} (hc : ¬ Dig c) {l : List UInt8} (h : D u = l) (hm : c ∈ l) : False := D_nodot u c hc (by rw [h]; exact hm)
theorem ng_pre (c : UInt8) (hc : ¬ Dig c) (h46 : c ≠ 46) (e n e' n' : Nat) : ¬ Good (c :: T e n) e' n' := fun h => by
  have := good_parts (a := c :: D e) (b := D n) (by simp only [List.mem_cons, not_or]; exact ⟨fun x => h46 x.symm, dot_not e⟩) h
  exact not_dig_mem hc this.1 List.mem_cons_self
theorem ng_post (c : UInt8) (hc : ¬ Dig c) (e n e' n' : Nat) : ¬ Good (T e n ++ [c]) e' n' := fun h => by
  have := good_parts (a := D e) (b := D n ++ [c]) (dot_not e) (by simpa [T] using h)
  exact not_dig_mem hc this.2.1 (by simp)
theorem ng_zero (e n e' n' : Nat) : ¬ Good (48 :: T e n) e' n' := fun h => by
  have := good_parts (a := 48 :: D e) (b := D n) (by simp only [List.mem_cons, not_or]; exact ⟨by decide, dot_not e⟩) h
  exact D_ne e (D_head0 e' _ this.1).2
theorem ng_dot (l : List UInt8) (e' n' : Nat) : ¬ Good (46 :: l) e' n' := fun h => D_ne e' (good_parts (a := []) (by simp) h).1
theorem ng_none {l : List UInt8} (hl : (46 : UInt8) ∉ l) (e' n' : Nat) : ¬ Good l e' n' := fun h => hl (by rw [h.2.2]; simp [T])
theorem ng_end (e' n' : Nat) : ¬ Good [49, 46] e' n' := fun h => D_ne n' (good_parts (a := [49]) (b := []) (by decide) h).2.1
theorem ng_lead (e' n' : Nat) : ¬ Good [49, 46, 48, 49] e' n' := fun h => by
  have := (D_head0 n' _ (good_parts (a := [49]) (b := [48, 49]) (by decide) h).2.1).2
  cases this
theorem ng_great (e' n' : Nat) : ¬ Good [52, 53, 48, 51, 53, 57, 57, 54, 50, 55, 51, 55, 48, 52, 57, 55, 46, 49] e' n' := fun h => by
  obtain ⟨h1, _, h2⟩ := good_parts (a := [52, 53, 48, 51, 53, 57, 57, 54, 50, 55, 51, 55, 48, 52, 57, 55]) (b := [49]) (by decide) h
  have hv := D_val e'
  rw [h1] at hv
  have : val 0 [52, 53, 48, 51, 53, 57, 57, 54, 50, 55, 51, 55, 48, 52, 57, 55] = 4503599627370497 := by decide +kernel
  omega

/-- THE LAW CsnBack. -/
theorem back_true (e n how : Nat) (he : e < 4294967296) (hn : n < 4294967296) (hh : how < 256) : ∃ k, k = 0 ∧ brooklaw12_CsnBack.f (e : Int) (n : Int) (how : Int) = some true := by
  refine ⟨0, rfl, ?_⟩
  have e1 : wrap64 (e : Int) = (e : Int) := by unfold wrap64; omega
  have e2 : wrap64 (n : Int) = (n : Int) := by unfold wrap64; omega
  have l1 := D_short (u := e) (by omega)
  have l2 := D_short (u := n) (by omega)
  have hs : (mkB (T e n)).size ≤ 39 := by rw [mkB_size]; simp only [T, List.length_append, List.length_cons]; omega
  unfold brooklaw12_CsnBack.f
  rw [e1, e2, text_eval e n (by omega) (by omega)]
  simp only [Option.bind_some]
  rw [read_good (s := mkB (T e n)) (e := e) (n := n) (by omega) ⟨by omega, by omega, BL_mkB _⟩]
  simp only [Option.bind_some]
  rw [if_pos (by omega), if_pos (by omega)]
  have em : Int.tmod (how : Int) 13 = ((how % 13 : Nat) : Int) := by rw [Int.tmod_eq_emod_of_nonneg (by omega)]; omega
  rw [em, if_pos (by omega), if_pos (by simp only [List.length_cons, List.length_nil]; omega)]
  have hr : csn_Read.f (rdOf ByteArray.empty ([(⟨#[48]⟩ : ByteArray) ++ mkB (T e n), mkB (T e n) ++ (⟨#[32]⟩ : ByteArray), (⟨#[43]⟩ : ByteArray) ++ mkB (T e n), mkB (T e n) ++ (⟨#[46]⟩ : ByteArray), (⟨#[46]⟩ : ByteArray) ++ mkB (T e n), mkB (T e n) ++ (⟨#[120]⟩ : ByteArray), (⟨#[45]⟩ : ByteArray) ++ mkB (T e n), (⟨#[]⟩ : ByteArray), (⟨#[49]⟩ : ByteArray), (⟨#[49, 46]⟩ : ByteArray), (⟨#[46, 49]⟩ : ByteArray), (⟨#[49, 46, 48, 49]⟩ : ByteArray), (⟨#[52, 53, 48, 51, 53, 57, 57, 54, 50, 55, 51, 55, 48, 52, 57, 55, 46, 49]⟩ : ByteArray)] : List ByteArray) ((how % 13 : Nat) : Int)) = some (0, 0, false) := by
    have hlt : how % 13 < 13 := Nat.mod_lt _ (by decide)
    generalize how % 13 = j at hlt
    have bl1 : ∀ (c : UInt8), BL ((⟨#[c]⟩ : ByteArray) ++ mkB (T e n)) = c :: T e n := fun c => by rw [BL_append, BL_mkB]; rfl
    have bl2 : ∀ (c : UInt8), BL (mkB (T e n) ++ (⟨#[c]⟩ : ByteArray)) = T e n ++ [c] := fun c => by rw [BL_append, BL_mkB]
    have hl1 : ∀ (c : UInt8), ((⟨#[c]⟩ : ByteArray) ++ mkB (T e n)).size ≤ 1000000 := fun c => by rw [BL_len, bl1]; rw [mkB_size] at hs; simp only [List.length_cons]; omega
    have hl2 : ∀ (c : UInt8), (mkB (T e n) ++ (⟨#[c]⟩ : ByteArray)).size ≤ 1000000 := fun c => by rw [BL_len, bl2]; rw [mkB_size] at hs; simp only [List.length_append, List.length_cons, List.length_nil]; omega
    match j, hlt with
    | 0, _ => exact read_bad (s := (⟨#[48]⟩ : ByteArray) ++ mkB (T e n)) (hl1 48) (by rw [bl1]; exact ng_zero e n)
    | 1, _ => exact read_bad (s := mkB (T e n) ++ (⟨#[32]⟩ : ByteArray)) (hl2 32) (by rw [bl2]; exact ng_post 32 (by unfold Dig; decide) e n)
    | 2, _ => exact read_bad (s := (⟨#[43]⟩ : ByteArray) ++ mkB (T e n)) (hl1 43) (by rw [bl1]; exact ng_pre 43 (by unfold Dig; decide) (by decide) e n)
    | 3, _ => exact read_bad (s := mkB (T e n) ++ (⟨#[46]⟩ : ByteArray)) (hl2 46) (by rw [bl2]; exact ng_post 46 (by unfold Dig; decide) e n)
    | 4, _ => exact read_bad (s := (⟨#[46]⟩ : ByteArray) ++ mkB (T e n)) (hl1 46) (by rw [bl1]; exact ng_dot _)
    | 5, _ => exact read_bad (s := mkB (T e n) ++ (⟨#[120]⟩ : ByteArray)) (hl2 120) (by rw [bl2]; exact ng_post 120 (by unfold Dig; decide) e n)
    | 6, _ => exact read_bad (s := (⟨#[45]⟩ : ByteArray) ++ mkB (T e n)) (hl1 45) (by rw [bl1]; exact ng_pre 45 (by unfold Dig; decide) (by decide) e n)
    | 7, _ => exact read_bad (s := ⟨#[]⟩) (by decide) (ng_none (by decide))
    | 8, _ => exact read_bad (s := ⟨#[49]⟩) (by decide) (ng_none (by decide))
    | 9, _ => exact read_bad (s := ⟨#[49, 46]⟩) (by decide) ng_end
    | 10, _ => exact read_bad (s := ⟨#[46, 49]⟩) (by decide) (ng_dot _)
    | 11, _ => exact read_bad (s := ⟨#[49, 46, 48, 49]⟩) (by decide) ng_lead
    | 12, _ => exact read_bad (s := ⟨#[52, 53, 48, 51, 53, 57, 57, 54, 50, 55, 51, 55, 48, 52, 57, 55, 46, 49]⟩) (by decide) ng_great
    | j + 13, h => exact absurd h (by omega)
  rw [hr]
  simp only [Option.bind_some]
  rw [awake_eval]
  simp
end Go.Proofs.YtfdjnnlcfnincaaDoor.A
