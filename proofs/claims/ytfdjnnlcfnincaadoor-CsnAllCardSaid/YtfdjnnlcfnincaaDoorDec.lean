/- Plain facts on texts and decimal numerals, with no program in sight. -/
import Derived.Lib.ItoaNum
import Derived.Lib.AtoiAll
import Derived.Lib.Strings
import Derived.Lib.Bytealg
import Derived.Lib.SmallJoins
namespace Go.Proofs.YtfdjnnlcfnincaaDoor.Dec
open Go

abbrev BL (s : ByteArray) : List UInt8 := s.data.toList
def mkB (l : List UInt8) : ByteArray := ⟨l.toArray⟩
@[simp] theorem BL_mkB (l : List UInt8) : BL (mkB l) = l := by simp [mkB]
theorem BL_mk (a : Array UInt8) : BL ⟨a⟩ = a.toList := rfl
theorem BL_inj {a b : ByteArray} (h : BL a = BL b) : a = b := by
  cases a; cases b
  congr 1
  exact Array.toList_inj.1 h
theorem mkB_BL (s : ByteArray) : mkB (BL s) = s := BL_inj (BL_mkB _)
theorem BL_append (a b : ByteArray) : BL (a ++ b) = BL a ++ BL b := Joins.data_append a b
theorem BL_len (s : ByteArray) : s.size = (BL s).length := Lib.size_eq s
theorem toList_BL (s : ByteArray) : s.toList = BL s := Lib.toList_data s
theorem BL_extract (s : ByteArray) (a b : Nat) : BL (s.extract a b) = ((BL s).drop a).take (b - a) := Lib.extract_data s a b

/-! ### decimal numerals -/
def D (u : Nat) : List UInt8 := Lib.decDigits u
theorem D_small {u : Nat} (h : u < 10) : D u = [UInt8.ofNat (48 + u)] := by unfold D; rw [Lib.decDigits, dif_pos h]
theorem D_step {u : Nat} (h : ¬ u < 10) : D u = D (u / 10) ++ [UInt8.ofNat (48 + u % 10)] := by
  unfold D
  rw [Lib.decDigits, dif_neg h]
def Dig (c : UInt8) : Prop := 48 ≤ c.toNat ∧ c.toNat ≤ 57
theorem nat_of {n : Nat} (h : n < 256) : (UInt8.ofNat n).toNat = n := by simp [UInt8.toNat_ofNat']; omega
theorem D_dig (u : Nat) : ∀ c ∈ D u, Dig c := by
  induction u using Nat.strongRecOn with
  | _ u ih =>
    intro c hc
    by_cases h : u < 10
    · rw [D_small h, List.mem_singleton] at hc
      subst hc
      unfold Dig
      rw [nat_of (by omega)]
      omega
    · rw [D_step h, List.mem_append, List.mem_singleton] at hc
      rcases hc with hc | rfl
      · exact ih (u / 10) (by omega) c hc
      · unfold Dig
        rw [nat_of (by omega)]
        omega
theorem D_ne (u : Nat) : D u ≠ [] := by
  by_cases h : u < 10
  · rw [D_small h]; simp
  · rw [D_step h]; simp
/-- A numeral that begins with 0 is 0. -/
theorem D_head0 (u : Nat) : ∀ r, D u = 48 :: r → u = 0 ∧ r = [] := by
  induction u using Nat.strongRecOn with
  | _ u ih =>
    intro r hr
    by_cases h : u < 10
    · rw [D_small h] at hr
      simp only [List.cons.injEq] at hr
      have e := congrArg UInt8.toNat hr.1
      rw [nat_of (by omega)] at e
      exact ⟨by simp at e; omega, hr.2.symm⟩
    · rw [D_step h] at hr
      cases hd : D (u / 10) with
      | nil => exact absurd hd (D_ne _)
      | cons c l =>
        rw [hd] at hr
        simp only [List.cons_append, List.cons.injEq] at hr
        obtain ⟨rfl, _⟩ := hr
        have := ih (u / 10) (by omega) l hd
        omega
def val (acc : Nat) (l : List UInt8) : Nat := l.foldl (fun a c => a * 10 + (c.toNat - 48)) acc
theorem val_cons (acc : Nat) (c : UInt8) (l : List UInt8) : val acc (c :: l) = val (acc * 10 + (c.toNat - 48)) l := by simp only [val, List.foldl_cons]
theorem val_app (acc : Nat) (l r : List UInt8) : val acc (l ++ r) = val (val acc l) r := by simp [val, List.foldl_append]
theorem val_le (l : List UInt8) : ∀ acc, acc ≤ val acc l := by
  induction l with
  | nil => intro acc; exact Nat.le_refl _
  | cons c l ih =>
    intro acc
    have := ih (acc * 10 + (c.toNat - 48))
    show acc ≤ val (acc * 10 + (c.toNat - 48)) l
    omega
theorem D_val (u : Nat) : val 0 (D u) = u := by
  induction u using Nat.strongRecOn with
  | _ u ih =>
    by_cases h : u < 10
    · rw [D_small h]
      show 0 * 10 + ((UInt8.ofNat (48 + u)).toNat - 48) = u
      rw [nat_of (by omega)]
      omega
    · rw [D_step h, val_app, ih (u / 10) (by omega)]
      show u / 10 * 10 + ((UInt8.ofNat (48 + u % 10)).toNat - 48) = u
      rw [nat_of (by omega)]
      omega
theorem D_inj {a b : Nat} (h : D a = D b) : a = b := by rw [← D_val a, h, D_val]
theorem D_length (n : Nat) : ∀ u, 1 ≤ n → u < 10 ^ n → (D u).length ≤ n := by
  induction n with
  | zero => intro u h; omega
  | succ n ih =>
    intro u _ hu
    by_cases h : u < 10
    · rw [D_small h]; simp
    · rw [D_step h]
      have h1 : 1 ≤ n := by
        rcases Nat.eq_zero_or_pos n with rfl | h0
        · simp at hu; omega
        · exact h0
      have := ih (u / 10) h1 (by rw [Nat.pow_succ] at hu; omega)
      simp
      omega
theorem parse_val : ∀ (l : List UInt8) (acc : Nat), (∀ c ∈ l, Dig c) → val acc l < 18446744073709551616 → Lib.parseUint10 acc l = .ok (val acc l)
  | [], acc, _, _ => rfl
  | c :: r, acc, hd, hv => by
    have hc := hd c List.mem_cons_self
    have hv' : val (acc * 10 + (c.toNat - 48)) r < 18446744073709551616 := hv
    have hle := val_le r (acc * 10 + (c.toNat - 48))
    unfold Dig at hc
    simp only [Lib.parseUint10]
    rw [if_pos hc, if_neg (by omega), if_neg (by omega), parse_val r _ (fun x hx => hd x (List.mem_cons_of_mem _ hx)) hv']
    rfl
theorem atoi_D (u : Nat) (h : u < 9223372036854775808) : Lib.atoiAll (D u) = .ok (u : Int) := by
  have hd := D_dig u
  have hv := D_val u
  cases e : D u with
  | nil => exact absurd e (D_ne u)
  | cons c r =>
    have hc := hd c (by rw [e]; exact List.mem_cons_self)
    unfold Dig at hc
    have hp := parse_val (c :: r) 0 (by rw [← e]; exact hd) (by rw [← e, hv]; omega)
    rw [← e, hv, e] at hp
    unfold Lib.atoiAll
    simp only
    rw [if_neg (by omega)]
    unfold Lib.parseMag
    rw [if_neg (by simp), hp]
    simp only
    rw [if_neg (by omega), if_neg (by omega), if_neg (by omega)]

/-! ### the first place of a byte -/
theorem index_none : ∀ {l : List UInt8} {c : UInt8}, c ∉ l → Lib.indexByte l c = -1
  | [], _, _ => rfl
  | b :: l, c, h => by
    simp only [List.mem_cons, not_or] at h
    unfold Lib.indexByte
    rw [if_neg (by simp; exact fun e => h.1 e.symm), index_none h.2]
    rfl
theorem index_at : ∀ {l : List UInt8} {c : UInt8} (r : List UInt8), c ∉ l → Lib.indexByte (l ++ c :: r) c = l.length
  | [], c, r, _ => by simp [Lib.indexByte]
  | b :: l, c, r, h => by
    simp only [List.mem_cons, not_or] at h
    rw [List.cons_append]
    unfold Lib.indexByte
    rw [if_neg (by simp; exact fun e => h.1 e.symm), index_at r h.2]
    rw [if_neg (by simp)]
    simp
theorem split_first (l : List UInt8) (c : UInt8) : (∃ a b, l = a ++ c :: b ∧ c ∉ a) ∨ c ∉ l := by
  induction l with
  | nil => exact .inr (by simp)
  | cons x l ih =>
    by_cases h : x = c
    · subst h; exact .inl ⟨[], l, rfl, by simp⟩
    · rcases ih with ⟨a, b, rfl, ha⟩ | hn
      · exact .inl ⟨x :: a, b, rfl, by simp; exact ⟨fun e => h e.symm, ha⟩⟩
      · exact .inr (by simp; exact ⟨fun e => h e.symm, hn⟩)
/-- Where a byte first stands parts a text in one way. -/
theorem split_uniq {c : UInt8} : ∀ {a b a' b' : List UInt8}, c ∉ a → c ∉ a' → a ++ c :: b = a' ++ c :: b' → a = a' ∧ b = b'
  | [], b, [], b', _, _, h => by simp at h; exact ⟨rfl, h⟩
  | [], b, x :: a', b', _, h2, h => by simp at h; exact absurd h.1 (by simp at h2; exact h2.1)
  | x :: a, b, [], b', h1, _, h => by simp at h; exact absurd h.1.symm (by simp at h1; exact h1.1)
  | x :: a, b, y :: a', b', h1, h2, h => by
    simp only [List.cons_append, List.cons.injEq] at h
    simp only [List.mem_cons, not_or] at h1 h2
    obtain ⟨e1, e2⟩ := split_uniq h1.2 h2.2 h.2
    exact ⟨by rw [h.1, e1], e2⟩
theorem D_nodot (u : Nat) (c : UInt8) (h : ¬ Dig c) : c ∉ D u := fun hc => h (D_dig u c hc)
end Go.Proofs.YtfdjnnlcfnincaaDoor.Dec
