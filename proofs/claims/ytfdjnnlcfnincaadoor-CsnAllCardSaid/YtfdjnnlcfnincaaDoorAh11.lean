/- csn.Read, walked: the number of a text. -/
import Derived.Test.YtfdjnnlcfnincaaDoorAh31
import Derived.Test.YtfdjnnlcfnincaaDoorA20
import Derived.Test.YtfdjnnlcfnincaaDoorA13
import Derived.Test.YtfdjnnlcfnincaaDoorA10
namespace Go.Proofs.YtfdjnnlcfnincaaDoor.A
open Go.RowKit Go.Proofs.YtfdjnnlcfnincaaDoorW.PrintWords Go.Proofs.YtfdjnnlcfnincaaDoorW.PrintLast

set_option linter.unusedSimpArgs false
theorem bcell {W w1 : World} (hb : Below W.heap.size W w1) : (∀ b o, b < W.heap.size → w1.cell? ⟨b, o, none⟩ = W.cell? ⟨b, o, none⟩) ∧ (∀ b o, b < W.heap.size → w1.frozen? ⟨b, o, none⟩ = W.frozen? ⟨b, o, none⟩) :=
  ⟨fun b o h => hb.cell (p := ⟨b, o, none⟩) h, fun b o h => hb.frozen (p := ⟨b, o, none⟩) h⟩
theorem atoi_any (s : ByteArray) (hlim : s.size ≤ 281474976710656) (w : World) (hG : Glob w) :
    Calls Tryd.prog 21 #[.string s] w fun e w' => ∃ v ev, e = .returned (.tuple #[.int .i64 v, ev]) ∧ Below w.heap.size w w' := by
  by_cases h : ∃ v, Lib.atoiAll s.data.toList = .ok v
  · obtain ⟨v, h⟩ := h
    exact (atoi_good s hlim v h w).mono fun e w' ⟨he, hb⟩ => ⟨v, _, he, hb⟩
  · exact (atoi_bad s hlim (fun v hv => h ⟨v, hv⟩) w hG).mono fun e w' ⟨v, N, he, hb⟩ => ⟨v, _, he, hb⟩

set_option maxHeartbeats 1000000 in
theorem read_bad1 (s x y : ByteArray) (g : Bool) (w : World) (hG : Glob w) (hc : strings_Cut.f s ⟨#[46]⟩ = some (x, y, g)) (hx : x.size ≤ 281474976710656) (hy : y.size ≤ 281474976710656)
    (h1 : ∀ v, Lib.atoiAll x.data.toList ≠ .ok v) :
    Calls Tryd.prog 11 #[.string s] w fun e w' => e = .returned (.tuple #[.agg #[.int .i64 0, .int .i64 0], .bool false]) ∧ Below w.heap.size w w' := by
  have H1 := Lib.hid h1
  have HC := Lib.hid hc
  clear h1 hc
  go_enter Tryd.func11, Tryd.ntmps11
  go_wp2_with fail
  refine (strings_Cut.calls s ⟨#[46]⟩ x y g _ HC.out).mono ?_
  rintro e w' ⟨rfl, ⟨⟨n1, rfl⟩⟩⟩
  go_wp2_with fail
  have HB0 : Below w.heap.size w ((w.alloc (.cells #[.int .i64 0, .int .i64 0] 23)).drewN n1) := pw_below_drewN ((Below.refl _ _).alloc (Nat.le_refl _) _) _
  refine (atoi_bad x hx H1.out _ (hG.of_below HB0)).mono ?_
  rintro e w1 ⟨v1, N1, rfl, hb1⟩
  obtain ⟨hc1, hf1⟩ := bcell hb1
  have HB1 := below_then HB0 HB0.size hb1
  have hz1 : w.heap.size < w1.heap.size := by have := hb1.size; simp at this; omega
  clear hb1
  go_wp2_with fail
  refine (atoi_any y hy _ (hG.of_below HB1)).mono ?_
  rintro e w2 ⟨v2, ev, rfl, hb2⟩
  obtain ⟨hc2, hf2⟩ := bcell hb2
  have HB2 := below_then HB1 HB1.size hb2
  have hz2 : w1.heap.size ≤ w2.heap.size := hb2.size
  clear hb2 HB0 HB1
  have hzz : w.heap.size < w2.heap.size := by omega
  go_wp2_with fail
  exact bodyPost_ret (v := .tuple #[.agg #[.int .i64 0, .int .i64 0], .bool false]) (by simp [results, Tryd.results11, go_sem, hc1, hc2, hf1, hf2, hz1, hz2, hzz]) rfl ⟨rfl, (((HB2.setCell (Nat.le_refl _) _).setCell (Nat.le_refl _) _).alloc (by simp; omega) _)⟩
set_option maxHeartbeats 1000000 in
theorem read_bad2 (s x y : ByteArray) (g : Bool) (w : World) (hG : Glob w) (hc : strings_Cut.f s ⟨#[46]⟩ = some (x, y, g)) (hx : x.size ≤ 281474976710656) (hy : y.size ≤ 281474976710656)
    (v0 : Int) (h1 : Lib.atoiAll x.data.toList = .ok v0) (h2 : ∀ v, Lib.atoiAll y.data.toList ≠ .ok v) :
    Calls Tryd.prog 11 #[.string s] w fun e w' => e = .returned (.tuple #[.agg #[.int .i64 0, .int .i64 0], .bool false]) ∧ Below w.heap.size w w' := by
  have H1 := Lib.hid h1
  have H2 := Lib.hid h2
  have HC := Lib.hid hc
  clear h1 hc h2
  go_enter Tryd.func11, Tryd.ntmps11
  go_wp2_with fail
  refine (strings_Cut.calls s ⟨#[46]⟩ x y g _ HC.out).mono ?_
  rintro e w' ⟨rfl, ⟨⟨n1, rfl⟩⟩⟩
  go_wp2_with fail
  have HB0 : Below w.heap.size w ((w.alloc (.cells #[.int .i64 0, .int .i64 0] 23)).drewN n1) := pw_below_drewN ((Below.refl _ _).alloc (Nat.le_refl _) _) _
  refine (atoi_good x hx v0 H1.out _).mono ?_
  rintro e w1 ⟨rfl, hb1⟩
  obtain ⟨hc1, hf1⟩ := bcell hb1
  have HB1 := below_then HB0 HB0.size hb1
  have hz1 : w.heap.size < w1.heap.size := by have := hb1.size; simp at this; omega
  clear hb1
  go_wp2_with fail
  refine (atoi_bad y hy H2.out _ (hG.of_below HB1)).mono ?_
  rintro e w2 ⟨v2, N2, rfl, hb2⟩
  obtain ⟨hc2, hf2⟩ := bcell hb2
  have HB2 := below_then HB1 HB1.size hb2
  have hz2 : w1.heap.size ≤ w2.heap.size := hb2.size
  clear hb2 HB0 HB1
  have hzz : w.heap.size < w2.heap.size := by omega
  go_wp2_with fail
  exact bodyPost_ret (v := .tuple #[.agg #[.int .i64 0, .int .i64 0], .bool false]) (by simp [results, Tryd.results11, go_sem, hc1, hc2, hf1, hf2, hz1, hz2, hzz]) rfl ⟨rfl, (((HB2.setCell (Nat.le_refl _) _).setCell (Nat.le_refl _) _).alloc (by simp; omega) _)⟩
set_option maxHeartbeats 1000000 in
theorem read_may (s x y : ByteArray) (g : Bool) (w : World) (_hG : Glob w) (hc : strings_Cut.f s ⟨#[46]⟩ = some (x, y, g)) (hx : x.size ≤ 281474976710656) (hy : y.size ≤ 281474976710656)
    (v0 v1 : Int) (h1 : Lib.atoiAll x.data.toList = .ok v0) (h2 : Lib.atoiAll y.data.toList = .ok v1) (hm : csn_May.f v0 v1 = some false) :
    Calls Tryd.prog 11 #[.string s] w fun e w' => e = .returned (.tuple #[.agg #[.int .i64 0, .int .i64 0], .bool false]) ∧ Below w.heap.size w w' := by
  have H1 := Lib.hid h1
  have H2 := Lib.hid h2
  have HC := Lib.hid hc
  have HM := Lib.hid hm
  clear h1 hc h2 hm
  go_enter Tryd.func11, Tryd.ntmps11
  go_wp2_with fail
  refine (strings_Cut.calls s ⟨#[46]⟩ x y g _ HC.out).mono ?_
  rintro e w' ⟨rfl, ⟨⟨n1, rfl⟩⟩⟩
  go_wp2_with fail
  have HB0 : Below w.heap.size w ((w.alloc (.cells #[.int .i64 0, .int .i64 0] 23)).drewN n1) := pw_below_drewN ((Below.refl _ _).alloc (Nat.le_refl _) _) _
  refine (atoi_good x hx v0 H1.out _).mono ?_
  rintro e w1 ⟨rfl, hb1⟩
  obtain ⟨hc1, hf1⟩ := bcell hb1
  have HB1 := below_then HB0 HB0.size hb1
  have hz1 : w.heap.size < w1.heap.size := by have := hb1.size; simp at this; omega
  clear hb1
  go_wp2_with fail
  refine (atoi_good y hy v1 H2.out _).mono ?_
  rintro e w2 ⟨rfl, hb2⟩
  obtain ⟨hc2, hf2⟩ := bcell hb2
  have HB2 := below_then HB1 HB1.size hb2
  have hz2 : w1.heap.size ≤ w2.heap.size := hb2.size
  clear hb2 HB0 HB1
  have hzz : w.heap.size < w2.heap.size := by omega
  go_wp2_with fail
  refine (csn_May.calls v0 v1 false _ HM.out).mono ?_
  rintro e w3 ⟨rfl, hb3⟩
  have HBa : Below w.heap.size w (w2.alloc (.cells #[.int .i64 v0, .int .i64 v1] 23)) := HB2.alloc (Nat.le_of_lt hzz) _
  obtain ⟨hc3, hf3⟩ := bcell hb3
  have HB3 := below_then HBa HBa.size hb3
  have hz3 : w2.heap.size < w3.heap.size := by have := hb3.size; simp at this; omega
  have hz4 : w.heap.size < w3.heap.size := by omega
  have hne : w.heap.size ≠ w2.heap.size := by omega
  have hz8 : w.heap.size < w2.heap.size + 1 := by omega
  clear hb3 HB2 HBa
  go_wp2_with fail
  exact bodyPost_ret (v := .tuple #[.agg #[.int .i64 0, .int .i64 0], .bool false]) (by simp [results, Tryd.results11, go_sem, hc1, hc2, hc3, hz1, hz2, hz3, hz4, hzz, hz8, hne]) rfl ⟨rfl, ((HB3.setCell (Nat.le_refl _) _).setCell (Nat.le_refl _) _)⟩
set_option maxHeartbeats 1000000 in
theorem read_text (s x y : ByteArray) (g : Bool) (w : World) (hG : Glob w) (hc : strings_Cut.f s ⟨#[46]⟩ = some (x, y, g)) (hx : x.size ≤ 281474976710656) (hy : y.size ≤ 281474976710656)
    (v0 v1 : Int) (h1 : Lib.atoiAll x.data.toList = .ok v0) (h2 : Lib.atoiAll y.data.toList = .ok v1) (hm : csn_May.f v0 v1 = some true) (u : ByteArray) (hu : csn_Text.f v0 v1 = some u) (b : Bool) (hb : (u.toList == s.toList) = b) :
    Calls Tryd.prog 11 #[.string s] w fun e w' => e = .returned (.tuple #[.agg #[.int .i64 (if b then v0 else 0), .int .i64 (if b then v1 else 0)], .bool b]) ∧ Below w.heap.size w w' := by
  have H1 := Lib.hid h1
  have H2 := Lib.hid h2
  have HC := Lib.hid hc
  have HM := Lib.hid hm
  have HU := Lib.hid hu
  clear h1 hc h2 hm hu
  go_enter Tryd.func11, Tryd.ntmps11
  go_wp2_with fail
  refine (strings_Cut.calls s ⟨#[46]⟩ x y g _ HC.out).mono ?_
  rintro e w' ⟨rfl, ⟨⟨n1, rfl⟩⟩⟩
  go_wp2_with fail
  have HB0 : Below w.heap.size w ((w.alloc (.cells #[.int .i64 0, .int .i64 0] 23)).drewN n1) := pw_below_drewN ((Below.refl _ _).alloc (Nat.le_refl _) _) _
  refine (atoi_good x hx v0 H1.out _).mono ?_
  rintro e w1 ⟨rfl, hb1⟩
  obtain ⟨hc1, hf1⟩ := bcell hb1
  have HB1 := below_then HB0 HB0.size hb1
  have hz1 : w.heap.size < w1.heap.size := by have := hb1.size; simp at this; omega
  clear hb1
  go_wp2_with fail
  refine (atoi_good y hy v1 H2.out _).mono ?_
  rintro e w2 ⟨rfl, hb2⟩
  obtain ⟨hc2, hf2⟩ := bcell hb2
  have HB2 := below_then HB1 HB1.size hb2
  have hz2 : w1.heap.size ≤ w2.heap.size := hb2.size
  clear hb2 HB0 HB1
  have hzz : w.heap.size < w2.heap.size := by omega
  go_wp2_with fail
  refine (csn_May.calls v0 v1 true _ HM.out).mono ?_
  rintro e w3 ⟨rfl, hb3⟩
  have HBa : Below w.heap.size w (w2.alloc (.cells #[.int .i64 v0, .int .i64 v1] 23)) := HB2.alloc (Nat.le_of_lt hzz) _
  obtain ⟨hc3, hf3⟩ := bcell hb3
  have HB3 := below_then HBa HBa.size hb3
  have hz3 : w2.heap.size < w3.heap.size := by have := hb3.size; simp at this; omega
  have hz4 : w.heap.size < w3.heap.size := by omega
  have hne : w.heap.size ≠ w2.heap.size := by omega
  have hz8 : w.heap.size < w2.heap.size + 1 := by omega
  clear hb3 HB2 HBa
  go_wp2_with fail
  refine (csn_Text.calls v0 v1 u _ (hG.of_below HB3) HU.out).mono ?_
  rintro e w4 ⟨rfl, hb4⟩
  obtain ⟨hc4, hf4⟩ := bcell hb4
  have HB4 := below_then HB3 HB3.size hb4
  have hz5 : w2.heap.size < w4.heap.size := by have := hb4.size; omega
  have hz6 : w.heap.size < w4.heap.size := by omega
  have hz7 : w3.heap.size ≤ w4.heap.size := hb4.size
  have hbn : (u.toList != s.toList) = !b := by rw [← hb]; rfl
  clear hb4 HB3
  cases b with
  | true =>
    simp only [Bool.not_true, if_true] at hbn ⊢
    go_wp2_with fail
    exact bodyPost_ret (v := .tuple #[.agg #[.int .i64 v0, .int .i64 v1], .bool true]) (by simp [results, Tryd.results11, go_sem, hc1, hc2, hc3, hc4, hz1, hz2, hz3, hz4, hz5, hz6, hz7, hz8, hzz, hne]) rfl ⟨rfl, ((HB4.setCell (Nat.le_refl _) _).setCell (Nat.le_refl _) _)⟩
  | false =>
    simp only [Bool.not_false] at hbn ⊢
    go_wp2_with fail
    exact bodyPost_ret (v := .tuple #[.agg #[.int .i64 0, .int .i64 0], .bool false]) (by simp [results, Tryd.results11, go_sem, hc1, hc2, hc3, hc4, hz1, hz2, hz3, hz4, hz5, hz6, hz7, hz8, hzz, hne]) rfl ⟨rfl, ((HB4.setCell (Nat.le_refl _) _).setCell (Nat.le_refl _) _)⟩
/-- What csn.Read hands back, out of what its callees do. -/
def csn_Read.f (a0 : ByteArray) : Option (Int × Int × Bool) := (strings_Cut.f a0 ⟨#[46]⟩).bind fun c =>
  if c.1.size ≤ 281474976710656 ∧ c.2.1.size ≤ 281474976710656 then
    match Lib.atoiAll c.1.data.toList, Lib.atoiAll c.2.1.data.toList with
    | .ok v0, .ok v1 => (csn_May.f v0 v1).bind fun m => if m = true then (csn_Text.f v0 v1).bind fun u => some (if (u.toList == a0.toList) = true then v0 else 0, if (u.toList == a0.toList) = true then v1 else 0, u.toList == a0.toList) else some (0, 0, false)
    | _, _ => some (0, 0, false)
  else none
theorem csn_Read.calls (a0 : ByteArray) (r1 : Int) (r2 : Int) (r3 : Bool) (w : World) (hG : Glob w) (h : csn_Read.f a0 = some (r1, r2, r3)) :
    Calls Tryd.prog 11 #[.string a0] w fun e w' => e = .returned (.tuple #[.agg #[.int .i64 r1, .int .i64 r2], .bool r3]) ∧ Below w.heap.size w w' := by
  unfold csn_Read.f at h
  cases hc : strings_Cut.f a0 ⟨#[46]⟩ with
  | none => rw [hc] at h; cases h
  | some c =>
    obtain ⟨x, y, g⟩ := c
    rw [hc] at h
    simp only [Option.bind_some] at h
    split at h
    · rename_i hsz
      by_cases h1 : ∃ v, Lib.atoiAll x.data.toList = .ok v
      · obtain ⟨v0, h1⟩ := h1
        by_cases h2 : ∃ v, Lib.atoiAll y.data.toList = .ok v
        · obtain ⟨v1, h2⟩ := h2
          rw [h1, h2] at h
          simp only at h
          cases hm : csn_May.f v0 v1 with
          | none => rw [hm] at h; cases h
          | some m =>
            rw [hm] at h
            simp only [Option.bind_some] at h
            cases m with
            | false =>
              simp only [Bool.false_eq_true, if_false, Option.some.injEq, Prod.mk.injEq] at h
              obtain ⟨rfl, rfl, rfl⟩ := h
              exact read_may a0 x y g w hG hc hsz.1 hsz.2 v0 v1 h1 h2 hm
            | true =>
              simp only [if_true] at h
              cases hu : csn_Text.f v0 v1 with
              | none => rw [hu] at h; cases h
              | some u =>
                rw [hu] at h
                simp only [Option.bind_some, Option.some.injEq, Prod.mk.injEq] at h
                obtain ⟨rfl, rfl, rfl⟩ := h
                exact read_text a0 x y g w hG hc hsz.1 hsz.2 v0 v1 h1 h2 hm u hu _ rfl
        · have hh : some (0, 0, false) = some (r1, r2, r3) := by
            rw [h1] at h
            cases hy : Lib.atoiAll y.data.toList with
            | ok v => exact absurd ⟨v, hy⟩ h2
            | _ => rw [hy] at h; exact h
          simp only [Option.some.injEq, Prod.mk.injEq] at hh
          obtain ⟨rfl, rfl, rfl⟩ := hh
          exact read_bad2 a0 x y g w hG hc hsz.1 hsz.2 v0 h1 (fun v hv => h2 ⟨v, hv⟩)
      · have hh : some (0, 0, false) = some (r1, r2, r3) := by
          cases hx : Lib.atoiAll x.data.toList with
          | ok v => exact absurd ⟨v, hx⟩ h1
          | _ => rw [hx] at h; exact h
        simp only [Option.some.injEq, Prod.mk.injEq] at hh
        obtain ⟨rfl, rfl, rfl⟩ := hh
        exact read_bad1 a0 x y g w hG hc hsz.1 hsz.2 (fun v hv => h1 ⟨v, hv⟩)
    · cases h
end Go.Proofs.YtfdjnnlcfnincaaDoor.A
