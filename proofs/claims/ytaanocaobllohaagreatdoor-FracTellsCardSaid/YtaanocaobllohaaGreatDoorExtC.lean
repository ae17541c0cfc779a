/-
  The c0b of IndexByte, in the mirrors' form.
-/
import Derived.Test.YtaanocaobllohaaGreatDoorTrim
namespace Go.Proofs.YtaanocaobllohaaGreatDoor.M
open Go Go.RowKit Rt
def stringslite_IndexByte (_n : Nat) (s : Rt.Bs) (c : Int) : Option Int := some (Lib.indexByte s c.toNat.toUInt8)
theorem b1m (n : Nat) (s : Rt.Bs) (c : Int) (r : Int) (hm : stringslite_IndexByte n s c = some r) {w : World} :
    Calls Tryz.prog 124 #[vs s, .int .u8 c] w fun e w' => e = .returned (.int .i64 r) ∧ w' = w := by
  unfold stringslite_IndexByte at hm
  cases hm
  exact Tryz.stringslite_IndexByte ⟨s.toArray⟩ c w
end Go.Proofs.YtaanocaobllohaaGreatDoor.M
