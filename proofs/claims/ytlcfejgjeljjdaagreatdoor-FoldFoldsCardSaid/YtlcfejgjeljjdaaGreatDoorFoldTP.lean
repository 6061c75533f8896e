/- Sums and products turn about; a difference is laid on again; -/
import Derived.Test.YtlcfejgjeljjdaaGreatDoorMg15
namespace Go.Proofs.YtlcfejgjeljjdaaGreatDoor
open Go.RowKit
theorem binE_is {m x y:ByteArray} {a b:Int} (hm:Lib.containsS binMarks m = true) (hx:IntT x) (hy:IntT y):binE m a x b y = match binI m x (asI a x) y (asI b y) with
 | none=>(0,⟨#[]⟩,120)
 | some v=>(v.2,v.1,0):=by
 unfold binE
 rw [if_neg (by rw [hm];simp),if_neg (by rw [isIntS_of hx,isIntS_of hy];simp)]
 rfl
end Go.Proofs.YtlcfejgjeljjdaaGreatDoor
