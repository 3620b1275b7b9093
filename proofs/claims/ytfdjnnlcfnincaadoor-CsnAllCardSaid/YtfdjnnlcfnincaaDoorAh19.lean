/- strconv.Itoa, in the form of the printed contracts: the decimal numeral. -/
import Derived.Test.YtfdjnnlcfnincaaDoorA
import Derived.Test.YtfdjnnlcfnincaaDoorShelf
namespace Go.Proofs.YtfdjnnlcfnincaaDoor.A
open Go.RowKit Go.Proofs.YtfdjnnlcfnincaaDoorW.PrintWords Go.Proofs.YtfdjnnlcfnincaaDoorW.PrintLast

def strconv_Itoa.f (a0 : Int) : Option ByteArray := if -9223372036854775808 ≤ a0 ∧ a0 ≤ 9223372036854775807 then some ⟨(Lib.itoa a0).toArray⟩ else none
theorem strconv_Itoa.calls (a0 : Int) (r : ByteArray) (w : World) (hG : Glob w) (h : strconv_Itoa.f a0 = some r) :
    Calls Tryd.prog 19 #[.int .i64 a0] w fun e w' => e = .returned (.string r) ∧ Below w.heap.size w w' := by
  unfold strconv_Itoa.f at h
  split at h
  · rename_i hb
    obtain rfl := Option.some.inj h
    exact (Tryd.strconv_Itoa a0 hb.1 hb.2 w hG.1).mono fun e w' ⟨he, k, os, hw⟩ => ⟨he, by subst hw; exact Lib.below_grow _ _ (Nat.le_refl _) _ _⟩
  · cases h
end Go.Proofs.YtfdjnnlcfnincaaDoor.A
