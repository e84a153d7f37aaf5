/- An object's cells are one cell each. -/
import Derived.Test.YtmacceamebdelaaDoorObB
namespace Go.Proofs.YtmacceamebdelaaDoor
open Go.RowKit
theorem rd_one {w : World} {size n : Nat} {v : Value} {xs : List Value} (h : rdRow w size v n xs) : v.oneCell' = true := by
  obtain ⟨_, ao, cap, rfl, _⟩ := h
  rfl
theorem objC_one {w : World} {o : ObjS} {ve vp : Value} (he : rdE w ve o.ents) (hp : rdS w vp o.pars) : (objC o ve vp).toArray.all (·.oneCell') = true := by
  have h1 := rd_one he
  have h2 := rd_one hp
  simp only [objC, List.all_toArray, List.all_cons, List.all_nil, h1, h2]
  rfl
end Go.Proofs.YtmacceamebdelaaDoor
