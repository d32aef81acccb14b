import Derived.Test.YtmhepfehcakmjaaGreatKYtouchesProof
import Derived.Test.YtmhepfehcakmjaaGreatKYrowProof
namespace Go.Proofs.YtmhepfehcakmjaaGreat
theorem two_hold : Rows.ApplyTouchesSaid /\ Rows.ApplyRowSaid := ⟨applyTouches_holds, applyRow_holds⟩
end Go.Proofs.YtmhepfehcakmjaaGreat
