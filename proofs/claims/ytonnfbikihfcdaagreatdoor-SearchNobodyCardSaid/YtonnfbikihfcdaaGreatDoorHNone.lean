import Derived.Test.YtonnfbikihfcdaaGreatDoorWWords
namespace Go.Proofs.YtonnfbikihfcdaaGreatDoorH
theorem hnone : True := trivial
end Go.Proofs.YtonnfbikihfcdaaGreatDoorH
