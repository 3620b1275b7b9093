/- CsnBack and CsnAll: a number is told again by its text, with a sign more it is none; whether any number may be, how two stand, its text, what any text says and what comes next is the document's. For every input (what the row lists of Go's library's variables is laid by the library's own text; the card ties it). -/
import Derived.Test.YtfdjnnlcfnincaaDoorCards
import Derived.Test.YtfdjnnlcfnincaaDoorTie
import Derived.Test.YtfdjnnlcfnincaaDoorALaws
import Derived.WalkKit
import Derived.ProofKit
import Derived.OpenShut
import Derived.ShutString
import Derived.LaidMore
import Derived.Lib.SmallJoins
import Derived.Deep.DeepHandedRow
import Derived.Deep.DeepWitnessRowRef
import Derived.Lib.LaidTab
import Derived.Stop.LaidErr
namespace Go.Proofs.YtfdjnnlcfnincaaDoor.csn
open Go.ChangeShapes Go.WideShapes Go.ChangeAt Go.RowKit Go.Joins
open Go.ChangeMaps (open_string shut_string)

theorem own : ownKnob Tryd.prog.godebug = none := by kernel_rfl
theorem cells23 : Tryd.prog.cellsOf 23 = 2 := by kernel_rfl
theorem gTab : Tryd.prog.globalNamed "internal/strconv.uint64pow10" = some 3 := by kernel_rfl
theorem gSyn : Tryd.prog.globalNamed "strconv.ErrSyntax" = some 1 := by kernel_rfl
theorem gRan : Tryd.prog.globalNamed "strconv.ErrRange" = some 2 := by kernel_rfl
theorem tSyn : (Tryd.prog.globals[1]?).map (·.type) = some 46 := by kernel_rfl
theorem tRan : (Tryd.prog.globals[2]?).map (·.type) = some 46 := by kernel_rfl
theorem tTab : (Tryd.prog.globals[3]?).map (·.type) = some 79 := by kernel_rfl
theorem cells54 : Tryd.prog.cellsOf 54 = 1 := by kernel_rfl
theorem cells79 : Tryd.prog.cellsOf 79 = 20 := by kernel_rfl
theorem cells89 : Tryd.prog.cellsOf 89 = 1 := by kernel_rfl
theorem cells9 : Tryd.prog.cellsOf 9 = 1 := by kernel_rfl
theorem star : "*" ++ "errors.errorString" = "*errors.errorString" := by decide
theorem row87 (u : TypeId) (h : Tryd.prog.typeName? 3 u = some "*errors.errorString") : u = 87 :=
  typeName_ptr_named (nm := "errors.errorString") (by rw [star]; kernel_rfl) (by kernel_rfl) (by decide) u (by rw [star]; exact h)
/-- What the row's list gives. -/
theorem globs {W : World} (h : laidMetH Tryd.prog Rows.csnBackRow.laid W) : A.Glob W := by
  have h0 : laidMet Tryd.prog Rows.csnBackRow.laid W := h
  refine ⟨Lib.tabIs_of_head gTab tTab Tryd.underlying79 Tryd.underlying54 cells54 cells79 h0.tail.tail, ?_, ?_⟩
  · obtain ⟨a0, s0, hv0, -, -, -⟩ := laid_sentinel h0.tail.tail.tail.tail gSyn tSyn Tryd.underlying46 row87 Tryd.underlying87 Tryd.underlying89 rfl rfl Tryd.underlying9 cells89 cells9
    exact ⟨_, _, hv0⟩
  · obtain ⟨a0, s0, hv0, -, -, -⟩ := laid_sentinel h0.tail.tail.tail gRan tRan Tryd.underlying46 row87 Tryd.underlying87 Tryd.underlying89 rfl rfl Tryd.underlying9 cells89 cells9
    exact ⟨_, _, hv0⟩

theorem contractBack (H : Type) (enc : TypeId × Value → H) (W : World) (base : Nat) (args : Array Value) (ds gs : List (DataW H)) (before : List MemPlace)
    (hval : ∀ (j : Nat) t v, Tryd.f4.params[j]? = some t → args[j]? = some v → Value.okWide Tryd.prog W .any base t v)
    (hW : DataW.Whole enc Tryd.prog Tryd.f4.params.toList Rows.csnBackSpec.vars false W args.toList ds gs before) (hL : laidMetH Tryd.prog Rows.csnBackRow.laid W) :
    Calls Tryd.prog 4 args W fun e W' => ∃ v, e = .returned v ∧ Rows.csnBackSpec.post enc Tryd.prog Tryd.f4 false true false false W args v W' := by
  have hW' := hW
  obtain ⟨p, q, hA0, hV, rfl, hfz, hnd⟩ := hW
  have hA : DataW.TrodAll enc Tryd.prog W 0 (fun _ => true) true Tryd.f4.params.toList args.toList ds p := hA0
  rw [Tryd.params4] at hA hval
  obtain ⟨v0, vs0, d0, ds0, p0, q0, hargs, rfl, rfl, h0, r0⟩ := trodAll_cons hA
  obtain ⟨v1, vs1, d1, ds1, p1, q1, rfl, rfl, rfl, h1, r1⟩ := trodAll_cons r0
  obtain ⟨v2, vs2, d2, ds2, p2, q2, rfl, rfl, rfl, h2, r2⟩ := trodAll_cons r1
  obtain ⟨rfl, rfl, rfl⟩ := trodAll_nil r2
  obtain rfl : args = #[v0, v1, v2] := by cases args; simp_all
  obtain ⟨rfl, rfl⟩ := trodVars_none hV
  obtain ⟨a, rfl, rfl, rfl, wa⟩ := open_int Tryd.underlying30 (hval 0 30 v0 rfl rfl) h0
  obtain ⟨b, rfl, rfl, rfl, wb⟩ := open_int Tryd.underlying30 (hval 1 30 v1 rfl rfl) h1
  obtain ⟨c, rfl, rfl, rfl, wc⟩ := open_int Tryd.underlying5 (hval 2 5 v2 rfl rfl) h2
  clear hA0
  simp only [List.append_nil] at hW'
  have ba := bounds_u32 wa
  have bb := bounds_u32 wb
  have bc := bounds_u8 wc
  obtain ⟨a, rfl⟩ := Int.eq_ofNat_of_zero_le ba.1
  obtain ⟨b, rfl⟩ := Int.eq_ofNat_of_zero_le bb.1
  obtain ⟨c, rfl⟩ := Int.eq_ofNat_of_zero_le bc.1
  obtain ⟨_, _, hk⟩ := A.back_true a b c (by omega) (by omega) (by omega)
  refine (A.brooklaw12_CsnBack.calls a b c true W (globs hL) hk ⟨rfl⟩).mono fun e W' ⟨he, bel⟩ => ?_
  subst he
  exact ⟨_, rfl, _, _, _, [], _, [], hW', trodAll_mk1 (shut_bool Tryd.underlying4 _),
    (trodAll_cons_mk (shut_int Tryd.underlying30 wa) (trodAll_cons_mk (shut_int Tryd.underlying30 wb) (trodAll_cons_mk (shut_int Tryd.underlying5 wc) trodAll_mk0))),
    rfl, bel.frame _, fun h => by cases h⟩

theorem contractAll (H : Type) (enc : TypeId × Value → H) (W : World) (base : Nat) (args : Array Value) (ds gs : List (DataW H)) (before : List MemPlace)
    (hval : ∀ (j : Nat) t v, Tryd.f5.params[j]? = some t → args[j]? = some v → Value.okWide Tryd.prog W .any base t v)
    (hW : DataW.Whole enc Tryd.prog Tryd.f5.params.toList Rows.csnAllSpec.vars false W args.toList ds gs before) (hL : laidMetH Tryd.prog Rows.csnAllRow.laid W) :
    Calls Tryd.prog 5 args W fun e W' => ∃ v, e = .returned v ∧ Rows.csnAllSpec.post enc Tryd.prog Tryd.f5 false true false false W args v W' := by
  have hW' := hW
  obtain ⟨p, q, hA0, hV, rfl, hfz, hnd⟩ := hW
  have hA : DataW.TrodAll enc Tryd.prog W 0 (fun _ => true) true Tryd.f5.params.toList args.toList ds p := hA0
  rw [Tryd.params5] at hA hval
  obtain ⟨v0, vs0, d0, ds0, p0, q0, hargs, rfl, rfl, h0, r0⟩ := trodAll_cons hA
  obtain ⟨v1, vs1, d1, ds1, p1, q1, rfl, rfl, rfl, h1, r1⟩ := trodAll_cons r0
  obtain ⟨v2, vs2, d2, ds2, p2, q2, rfl, rfl, rfl, h2, r2⟩ := trodAll_cons r1
  obtain ⟨v3, vs3, d3, ds3, p3, q3, rfl, rfl, rfl, h3, r3⟩ := trodAll_cons r2
  obtain ⟨rfl, rfl, rfl⟩ := trodAll_nil r3
  obtain rfl : args = #[v0, v1, v2, v3] := by cases args; simp_all
  obtain ⟨rfl, rfl⟩ := trodVars_none hV
  obtain ⟨c0, c1, y0, y1, m0, rfl, rfl, rfl, hy0, hy1⟩ := open_agg2 Tryd.underlying23 (by kernel_rfl) cells23 (hval 0 23 v0 rfl rfl) h0
  obtain ⟨a0, e0, rfl, wa0⟩ := DataW.trod_int Tryd.underlying3 hy0
  obtain ⟨a1, e1, rfl, wa1⟩ := DataW.trod_int Tryd.underlying3 hy1
  obtain ⟨c2, c3, y2, y3, m1, rfl, rfl, rfl, hy2, hy3⟩ := open_agg2 Tryd.underlying23 (by kernel_rfl) cells23 (hval 1 23 v1 rfl rfl) h1
  obtain ⟨b0, e2, rfl, wb0⟩ := DataW.trod_int Tryd.underlying3 hy2
  obtain ⟨b1, e3, rfl, wb1⟩ := DataW.trod_int Tryd.underlying3 hy3
  obtain ⟨s, rfl, rfl, rfl, ys⟩ := open_string Tryd.underlying9 (hval 2 9 v2 rfl rfl) h2
  obtain ⟨n, rfl, rfl, rfl, wn⟩ := open_int Tryd.underlying3 (hval 3 3 v3 rfl rfl) h3
  simp at e0 e1 e2 e3
  subst e0 e1 e2 e3
  clear hA0
  simp only [List.append_nil] at hW'
  obtain ⟨k, hk⟩ := A.all_true a0 a1 b0 b1 s n
  refine (A.brooklaw12_CsnAll.calls k a0 a1 b0 b1 s n true W (globs hL) hk ⟨rfl⟩).mono fun e W' ⟨he, bel⟩ => ?_
  subst he
  have i64 : ∀ {sp : Nat → Bool} {x : Int} (_ : (Lit.int .i64 x).wf = true), ∃ n, DataW.trod enc Tryd.prog W' 0 sp true n 3 [Value.int .i64 x] = some (.lit (.int .i64 x), []) := fun wx => ⟨1, by simp [DataW.trod, Tryd.underlying3, wx]⟩
  exact ⟨_, rfl, _, _, _, [], _, [], hW', trodAll_mk1 (shut_bool Tryd.underlying4 _),
    (trodAll_cons_mk (shut_agg2 (y0 := (.lit (.int .i64 a0), [])) (y1 := (.lit (.int .i64 a1), [])) Tryd.underlying23 (by kernel_rfl) cells23 (i64 wa0) (i64 wa1)) (trodAll_cons_mk (shut_agg2 (y0 := (.lit (.int .i64 b0), [])) (y1 := (.lit (.int .i64 b1), [])) Tryd.underlying23 (by kernel_rfl) cells23 (i64 wb0) (i64 wb1)) (trodAll_cons_mk (shut_string Tryd.underlying9 ys) (trodAll_cons_mk (shut_int Tryd.underlying3 wn) trodAll_mk0)))),
    rfl, bel.frame _, fun h => by cases h⟩

/-- A world for the witness: what the program's own text lays. -/
noncomputable def laidWorld (os : Os) : World := World.doorLaid Tryd.prog 2000 os
def zerosBack : Array Value := #[.int .u32 0, .int .u32 0, .int .u8 0]
def zerosAll : Array Value := #[.agg #[.int .i64 0, .int .i64 0], .agg #[.int .i64 0, .int .i64 0], .string ⟨#[]⟩, .int .i64 0]
theorem metBack (os : Os) : laidMet Tryd.prog Rows.csnBackRow.laid ((laidWorld os).forCall (fun _ _ => 0) ⟨#[], zerosBack, []⟩).memory :=
  laidMet_of_run' 8 (by kernel_rfl) (by kernel_rfl)
theorem metAll (os : Os) : laidMet Tryd.prog Rows.csnAllRow.laid ((laidWorld os).forCall (fun _ _ => 0) ⟨#[], zerosAll, []⟩).memory :=
  laidMet_of_run' 8 (by kernel_rfl) (by kernel_rfl)
theorem readsBack (os : Os) {H : Type} (enc : TypeId × Value → H) : ∃ places, DataW.whole enc Tryd.prog ((laidWorld os).forCall (fun _ _ => 0) ⟨#[], zerosBack, []⟩).memory Tryd.f4.params.toList Rows.csnBackSpec.vars false zerosBack.toList 8 = some ([.lit (.int .u32 0), .lit (.int .u32 0), .lit (.int .u8 0)], [], places) :=
  ⟨[], by kernel_rfl⟩
theorem readsAll (os : Os) {H : Type} (enc : TypeId × Value → H) : ∃ places, DataW.whole enc Tryd.prog ((laidWorld os).forCall (fun _ _ => 0) ⟨#[], zerosAll, []⟩).memory Tryd.f5.params.toList Rows.csnAllSpec.vars false zerosAll.toList 8 = some ([.agg [.lit (.int .i64 0), .lit (.int .i64 0)], .agg [.lit (.int .i64 0), .lit (.int .i64 0)], .lit (.string []), .lit (.int .i64 0)], [], places) :=
  ⟨[], by kernel_rfl⟩

set_option maxRecDepth 100000 in
theorem liftedBack (os : Os) (started : os.Started) (H : Type) (enc : TypeId × Value → H) (F : Stop.Interp) :
    ReturnsInHanded {} Tryd.checked os 4 .any ((OpenSpec.ofChange Rows.csnBackSpec).preRow enc Tryd.prog Tryd.f4 Rows.csnBackRow.domain false Rows.csnBackRow.laid) (((OpenSpec.ofChange Rows.csnBackSpec).at F).post enc Tryd.prog Tryd.f4 false true false false) := by
  obtain ⟨places, hx⟩ := readsBack os enc
  refine returnsInHanded_of_row (C := Tryd.checked) (s := OpenSpec.ofChange Rows.csnBackSpec) own started (by kernel_rfl) Tryd.func4
    (witness_row_atRef (enc := enc) (C := Tryd.checked) false (laidWorld os) zerosBack rfl (by kernel_rfl) (by kernel_rfl) (by kernel_rfl)
      (OpenSpec.preRow_of_cond 8 hx (by kernel_rfl) (fun k hk => by cases hk) (by kernel_rfl) (metBack os))) ?_
  intro W base args ds gs before hval hW _ _ _ hL _ _
  exact contractBack H enc W base args ds gs before hval hW hL
set_option maxRecDepth 100000 in
theorem liftedAll (os : Os) (started : os.Started) (H : Type) (enc : TypeId × Value → H) (F : Stop.Interp) :
    ReturnsInHanded {} Tryd.checked os 5 .any ((OpenSpec.ofChange Rows.csnAllSpec).preRow enc Tryd.prog Tryd.f5 Rows.csnAllRow.domain false Rows.csnAllRow.laid) (((OpenSpec.ofChange Rows.csnAllSpec).at F).post enc Tryd.prog Tryd.f5 false true false false) := by
  obtain ⟨places, hx⟩ := readsAll os enc
  refine returnsInHanded_of_row (C := Tryd.checked) (s := OpenSpec.ofChange Rows.csnAllSpec) own started (by kernel_rfl) Tryd.func5
    (witness_row_atRef (enc := enc) (C := Tryd.checked) false (laidWorld os) zerosAll rfl (by kernel_rfl) (by kernel_rfl) (by kernel_rfl)
      (OpenSpec.preRow_of_cond 8 hx (by kernel_rfl) (fun k hk => by cases hk) (by kernel_rfl) (metAll os))) ?_
  intro W base args ds gs before hval hW _ _ _ hL _ _
  exact contractAll H enc W base args ds gs before hval hW hL

theorem saidBack : Rows.CsnBackSaid :=
  OpenClaim.holds_of_cond 4 Tryd.f4 rfl rfl rfl rfl rfl rfl rfl ⟨rfl, rfl, rfl, rfl, rfl⟩ rfl rfl rfl rfl rfl (by kernel_rfl) Tryd.func4 (by kernel_rfl)
    (of_decide_eq_true (by kernel_rfl)) (by unfold Func.isWrapper; first | (rw [if_pos (by decide +kernel)]; kernel_rfl) | (rw [if_neg (by decide +kernel)]; exact ⟨rfl, rfl⟩))
    (fun os started H enc _ F => by rw [OpenClaim.pre_eq_preRow]; exact liftedBack os started H enc F)
theorem saidAll : Rows.CsnAllSaid :=
  OpenClaim.holds_of_cond 5 Tryd.f5 rfl rfl rfl rfl rfl rfl rfl ⟨rfl, rfl, rfl, rfl, rfl⟩ rfl rfl rfl rfl rfl (by kernel_rfl) Tryd.func5 (by kernel_rfl)
    (of_decide_eq_true (by kernel_rfl)) (by unfold Func.isWrapper; first | (rw [if_pos (by decide +kernel)]; kernel_rfl) | (rw [if_neg (by decide +kernel)]; exact ⟨rfl, rfl⟩))
    (fun os started H enc _ F => by rw [OpenClaim.pre_eq_preRow]; exact liftedAll os started H enc F)

theorem plainBack (f : FuncId) (fn : Func) (hf : Tryd.pinned.checked.prog.funcNamed Rows.csnBackRow.func = some f) (hfn : Tryd.pinned.checked.prog.funcs[f]? = some fn) :
    true = Tryd.pinned.checked.prog.looks [] ∧ ∀ (j : Nat) t, fn.params[j]? = some t → Tryd.pinned.checked.prog.wantsStandIn t = false := by
  obtain rfl : f = 4 := Option.some.inj ((show Tryd.prog.funcNamed Rows.csnBackRow.func = some 4 by kernel_rfl).symm.trans hf) |>.symm
  obtain rfl : fn = Tryd.f4 := (Option.some.inj (Tryd.func4.symm.trans hfn)).symm
  refine ⟨by kernel_rfl, fun j t ht => ?_⟩
  rw [Tryd.params4] at ht
  have : t = 30 ∨ t = 30 ∨ t = 5 := by simpa using Array.mem_of_getElem? ht
  rcases this with rfl | rfl | rfl
  all_goals first | exact (show Tryd.prog.wantsStandIn 30 = false by kernel_rfl) | exact (show Tryd.prog.wantsStandIn 5 = false by kernel_rfl)
theorem plainAll (f : FuncId) (fn : Func) (hf : Tryd.pinned.checked.prog.funcNamed Rows.csnAllRow.func = some f) (hfn : Tryd.pinned.checked.prog.funcs[f]? = some fn) :
    true = Tryd.pinned.checked.prog.looks [] ∧ ∀ (j : Nat) t, fn.params[j]? = some t → Tryd.pinned.checked.prog.wantsStandIn t = false := by
  obtain rfl : f = 5 := Option.some.inj ((show Tryd.prog.funcNamed Rows.csnAllRow.func = some 5 by kernel_rfl).symm.trans hf) |>.symm
  obtain rfl : fn = Tryd.f5 := (Option.some.inj (Tryd.func5.symm.trans hfn)).symm
  refine ⟨by kernel_rfl, fun j t ht => ?_⟩
  rw [Tryd.params5] at ht
  have : t = 23 ∨ t = 23 ∨ t = 9 ∨ t = 3 := by simpa using Array.mem_of_getElem? ht
  rcases this with rfl | rfl | rfl | rfl
  all_goals first | exact (show Tryd.prog.wantsStandIn 23 = false by kernel_rfl) | exact (show Tryd.prog.wantsStandIn 9 = false by kernel_rfl) | exact (show Tryd.prog.wantsStandIn 3 = false by kernel_rfl)
end Go.Proofs.YtfdjnnlcfnincaaDoor.csn
namespace Go.Proofs.YtfdjnnlcfnincaaDoor
open csn
/-- The statement CsnBack, for the claim. -/
theorem csnBack_holds : Rows.CsnBackCardSaid :=
  Claim7.holds_tied_plain_at .later [] _ _ _ _ saidBack (fun _ h => by cases h) (by kernel_rfl) (fun _ h => by cases h) csnBack_row_tie rfl ⟨rfl, rfl⟩ (by kernel_rfl) rfl plainBack (by kernel_rfl)
/-- The statement CsnAll, for the claim. -/
theorem csnAll_holds : Rows.CsnAllCardSaid :=
  Claim7.holds_tied_plain_at .later [] _ _ _ _ saidAll (fun _ h => by cases h) (by kernel_rfl) (fun _ h => by cases h) csnAll_row_tie rfl ⟨rfl, rfl⟩ (by kernel_rfl) rfl plainAll (by kernel_rfl)
end Go.Proofs.YtfdjnnlcfnincaaDoor
