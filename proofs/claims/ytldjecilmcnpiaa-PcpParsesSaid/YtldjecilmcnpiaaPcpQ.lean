/- Addresses of IPv4 as ones of IPv6 (the reference): walk of Mapped. -/
import Derived.Test.YtldjecilmcnpiaaPcp
set_option linter.unusedVariables false
namespace Go.Proofs.Ytldjecilmcnpiaa
open Go Go.RowKit

abbrev l6 (a : Int) : Array Value := #[.int .u8 0, .int .u8 0, .int .u8 0, .int .u8 0, .int .u8 0, .int .u8 0, .int .u8 0, .int .u8 0, .int .u8 0, .int .u8 0, .int .u8 255, .int .u8 255, .int .u8 (a / 16777216 % 256), .int .u8 (a / 65536 % 256), .int .u8 (a / 256 % 256), .int .u8 (a % 256)]
theorem l6_map (a : Int) : l6 a = cells6 (mapL a) := by
  have e : digL (a % 4294967296) 4 = [a / 16777216 % 256, a / 65536 % 256, a / 256 % 256, a % 256] := by
    simp [digL, List.range_succ]
    omega
  unfold mapL
  rw [e]
  rfl
set_option maxRecDepth 100000 in
set_option maxHeartbeats 1000000 in
theorem RefMapped_any (a : Int) (w : World) : Calls Try.prog 39 #[.int .i64 a] w fun e w' => e = .returned (.agg (cells6 (mapL a))) ∧ Below w.heap.size w w' := by
  rw [← l6_map a]
  go_enter Try.func39, Try.ntmps39
  go_wp2
  go_rounds 5
  exact bodyPost_ret (results_c Try.results39 rfl (run_load_S6 ((Blk.new w (l6 a) 44).alloc _) rfl)) rfl ⟨rfl, ((Below.refl _ w).alloc (Nat.le_refl _) _).alloc (by simp) _⟩
end Go.Proofs.Ytldjecilmcnpiaa
