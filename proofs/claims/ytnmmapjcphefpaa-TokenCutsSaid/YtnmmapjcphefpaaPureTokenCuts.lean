import Derived.Test.YtnmmapjcphefpaaPl
namespace Go.Proofs.Ytnmmapjcphefpaa.Pure
theorem TokenCuts : G.kilnlaw11_TokenCuts.Pure := G.TokenCuts_pure
end Go.Proofs.Ytnmmapjcphefpaa.Pure
