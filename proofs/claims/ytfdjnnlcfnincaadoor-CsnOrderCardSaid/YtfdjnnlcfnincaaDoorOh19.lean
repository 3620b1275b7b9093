/- strconv.Itoa at 0 to 99, in the form of the printed contracts. -/
import Derived.Test.YtfdjnnlcfnincaaDoorO
import Derived.Test.YtfdjnnlcfnincaaDoorShelfO
namespace Go.Proofs.YtfdjnnlcfnincaaDoor.O
open Go.RowKit Go.Proofs.YtfdjnnlcfnincaaDoorW.PrintWords Go.Proofs.YtfdjnnlcfnincaaDoorW.PrintLast

def strconv_Itoa.f (a0 : Int) : Option ByteArray := if 0 ≤ a0 ∧ a0 < 100 then some ⟨(Lib.decDigits a0.toNat).toArray⟩ else none
theorem strconv_Itoa.calls (a0 : Int) (r : ByteArray) (w : World) (h : strconv_Itoa.f a0 = some r) :
    Calls Tryd.prog 19 #[.int .i64 a0] w fun e w' => e = .returned (.string r) ∧ Drawn0 w w' := by
  unfold strconv_Itoa.f at h
  split at h
  · rename_i hb
    obtain ⟨n, rfl⟩ := Int.eq_ofNat_of_zero_le hb.1
    obtain rfl := Option.some.inj h
    exact (Tryd.strconv_Itoa_small n (by omega) w).mono fun e w' ⟨he, hw⟩ => ⟨by simpa using he, by subst hw; exact Drawn0.refl _⟩
  · cases h
end Go.Proofs.YtfdjnnlcfnincaaDoor.O
