/- WordWide answers true. -/
import Derived.Test.YtkfenljldmbmcaaT6
namespace Go.Proofs.Ytkfenljldmbmcaa
open Go.RowKit Go.MapKept

set_option maxHeartbeats 1000000 in
theorem wordWide_any (x y : Int) (w : World) (hx : U64 x) (hy : U64 y) : Calls Try.prog 8 #[.int .u64 x, .int .u64 y] w (Yes w) := by
  go_enter Try.func8, Try.ntmps8
  go_wp2_with fail
  refine (wide_any _ _ _ hx hy).mono ?_
  rintro e w1 ⟨rfl, rfl⟩
  go_wp2_with fail
  refine (Wide_any _ _ _ hx hy).mono ?_
  rintro e w1 ⟨rfl, rfl⟩
  go_wp2_with fail
  refine (known_any _).mono ?_
  rintro e w1 ⟨rfl, h1⟩
  go_wp2_with fail
  go_ret
  exact ⟨rfl, h1⟩
end Go.Proofs.Ytkfenljldmbmcaa
