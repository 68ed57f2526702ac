/- What bytes tell which items, and which items which bytes: plain. -/
import Derived.Test.YtgpeogbifpbcdaaPTlvTellsx1
namespace Go.Proofs.Ytgpeogbifpbcdaa.Tlv
open Go.RowKit Go.Proofs.YtgpeogbifpbcdaaW.PrintWords Go.Proofs.YtgpeogbifpbcdaaW.PrintMore Go.Proofs.YtgpeogbifpbcdaaW.PrintLast Go.Proofs.Ytgpeogbifpbcdaa.PTlvTells

/-- The length that stands in the second and third byte. -/
def len2 (b : List Int) : Nat := (rd b 1 * 256 + rd b 2).toNat
/-- The items that bytes are, behind those of acc. -/
def getL (b : List Int) (acc : List S26) : List S26 × Int :=
  if h0 : b.length = 0 then (acc, 0)
  else if b.length < 3 then ([], 2)
  else if (b.drop 3).length < len2 b then ([], 2)
  else getL ((b.drop 3).drop (len2 b)) (acc ++ [⟨rd b 0, (b.drop 3).take (len2 b)⟩])
termination_by b.length
decreasing_by simp; omega
theorem getL_nil (acc : List S26) : getL [] acc = (acc, 0) := by
  rw [getL, dif_pos (by rfl)]
theorem getL_short (b : List Int) (acc : List S26) (h0 : b.length ≠ 0) (h : b.length < 3) : getL b acc = ([], 2) := by
  rw [getL, dif_neg h0, if_pos h]
theorem getL_torn (b : List Int) (acc : List S26) (h3 : ¬ b.length < 3) (h : (b.drop 3).length < len2 b) : getL b acc = ([], 2) := by
  rw [getL, dif_neg (by omega), if_neg h3, if_pos h]
theorem getL_go (b : List Int) (acc : List S26) (h3 : ¬ b.length < 3) (h : ¬ (b.drop 3).length < len2 b) : getL b acc = getL ((b.drop 3).drop (len2 b)) (acc ++ [⟨rd b 0, (b.drop 3).take (len2 b)⟩]) := by
  rw [getL, dif_neg (by omega), if_neg h3, if_neg h]
end Go.Proofs.Ytgpeogbifpbcdaa.Tlv
