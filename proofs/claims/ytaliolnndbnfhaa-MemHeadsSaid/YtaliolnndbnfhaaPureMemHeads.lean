/- The plain law of MemHeads. -/
import Derived.Test.YtaliolnndbnfhaaPrF
namespace Go.Proofs.Ytaliolnndbnfhaa.Pure
open Go.RowKit Go.Proofs.Ytaliolnndbnfhaa.Pr
theorem MemHeads : kindlinglaw02_MemHeads.Pure := fun a b c h _ _ _ w => ⟨_, Pf.memHeads_pure a b c h (Pf.wfu w)⟩
end Go.Proofs.Ytaliolnndbnfhaa.Pure
