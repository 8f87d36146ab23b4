/- The plain law of MemHeadBack. -/
import Derived.Test.YtaliolnndbnfhaaPrF
namespace Go.Proofs.Ytaliolnndbnfhaa.Pure
open Go.RowKit Go.Proofs.Ytaliolnndbnfhaa.Pr
theorem MemHeadBack : kindlinglaw02_MemHeadBack.Pure := fun a b c h _ _ _ w => ⟨_, Pf.memHeadBack_pure a b c h (Pf.wfu w)⟩
end Go.Proofs.Ytaliolnndbnfhaa.Pure
