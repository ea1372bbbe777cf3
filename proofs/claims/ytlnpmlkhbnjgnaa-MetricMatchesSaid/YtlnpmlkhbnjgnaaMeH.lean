/- A part of the proof: MeH. -/
import Derived.Test.YtlnpmlkhbnjgnaaMeF
namespace Go.AX.ME
open Go.Proofs

theorem mixed : K.P.follows .mixedOrders = true := by kernel_rfl
theorem hC : COk K := ⟨fun t ks h => (by simp only [K] at h; unfold eqk at h; cases h), mixed⟩

theorem total0 : ranX K 60 28 [.v (.int .i64 0), .v (.int .i64 1024)] = some (.tup [.v (.int .i64 1452), .v (.int .i64 0)]) := by kernel_rfl
theorem rtotal0 : ranX K 60 29 [.v (.int .i64 0), .v (.int .i64 1024)] = some (.tup [.v (.int .i64 1452), .v (.int .i64 0)]) := by kernel_rfl
theorem total1 : ranX K 60 28 [.v (.int .i64 1), .v (.int .i64 1024)] = some (.tup [.v (.int .i64 996), .v (.int .i64 0)]) := by kernel_rfl
theorem rtotal1 : ranX K 60 29 [.v (.int .i64 1), .v (.int .i64 1024)] = some (.tup [.v (.int .i64 996), .v (.int .i64 0)]) := by kernel_rfl
theorem total2 : ranX K 60 28 [.v (.int .i64 2), .v (.int .i64 1024)] = some (.tup [.v (.int .i64 756), .v (.int .i64 0)]) := by kernel_rfl
theorem rtotal2 : ranX K 60 29 [.v (.int .i64 2), .v (.int .i64 1024)] = some (.tup [.v (.int .i64 756), .v (.int .i64 0)]) := by kernel_rfl
theorem total3 : ranX K 60 28 [.v (.int .i64 3), .v (.int .i64 1024)] = some (.tup [.v (.int .i64 528), .v (.int .i64 0)]) := by kernel_rfl
theorem rtotal3 : ranX K 60 29 [.v (.int .i64 3), .v (.int .i64 1024)] = some (.tup [.v (.int .i64 528), .v (.int .i64 0)]) := by kernel_rfl
theorem total4 : ranX K 60 28 [.v (.int .i64 4), .v (.int .i64 1024)] = some (.tup [.v (.int .i64 396), .v (.int .i64 0)]) := by kernel_rfl
theorem rtotal4 : ranX K 60 29 [.v (.int .i64 4), .v (.int .i64 1024)] = some (.tup [.v (.int .i64 396), .v (.int .i64 0)]) := by kernel_rfl
theorem total5 : ranX K 60 28 [.v (.int .i64 5), .v (.int .i64 1024)] = some (.tup [.v (.int .i64 288), .v (.int .i64 0)]) := by kernel_rfl
theorem rtotal5 : ranX K 60 29 [.v (.int .i64 5), .v (.int .i64 1024)] = some (.tup [.v (.int .i64 288), .v (.int .i64 0)]) := by kernel_rfl
theorem total6 : ranX K 60 28 [.v (.int .i64 6), .v (.int .i64 1024)] = some (.tup [.v (.int .i64 232), .v (.int .i64 0)]) := by kernel_rfl
theorem rtotal6 : ranX K 60 29 [.v (.int .i64 6), .v (.int .i64 1024)] = some (.tup [.v (.int .i64 232), .v (.int .i64 0)]) := by kernel_rfl
theorem total7 : ranX K 60 28 [.v (.int .i64 7), .v (.int .i64 1024)] = some (.tup [.v (.int .i64 216), .v (.int .i64 0)]) := by kernel_rfl
theorem rtotal7 : ranX K 60 29 [.v (.int .i64 7), .v (.int .i64 1024)] = some (.tup [.v (.int .i64 216), .v (.int .i64 0)]) := by kernel_rfl
theorem total8 : ranX K 60 28 [.v (.int .i64 8), .v (.int .i64 1024)] = some (.tup [.v (.int .i64 192), .v (.int .i64 0)]) := by kernel_rfl
theorem rtotal8 : ranX K 60 29 [.v (.int .i64 8), .v (.int .i64 1024)] = some (.tup [.v (.int .i64 192), .v (.int .i64 0)]) := by kernel_rfl
theorem total9 : ranX K 60 28 [.v (.int .i64 9), .v (.int .i64 1024)] = some (.tup [.v (.int .i64 168), .v (.int .i64 0)]) := by kernel_rfl
theorem rtotal9 : ranX K 60 29 [.v (.int .i64 9), .v (.int .i64 1024)] = some (.tup [.v (.int .i64 168), .v (.int .i64 0)]) := by kernel_rfl
theorem total10 : ranX K 60 28 [.v (.int .i64 10), .v (.int .i64 1024)] = some (.tup [.v (.int .i64 148), .v (.int .i64 0)]) := by kernel_rfl
theorem rtotal10 : ranX K 60 29 [.v (.int .i64 10), .v (.int .i64 1024)] = some (.tup [.v (.int .i64 148), .v (.int .i64 0)]) := by kernel_rfl
theorem total11 : ranX K 60 28 [.v (.int .i64 11), .v (.int .i64 1024)] = some (.tup [.v (.int .i64 136), .v (.int .i64 0)]) := by kernel_rfl
theorem rtotal11 : ranX K 60 29 [.v (.int .i64 11), .v (.int .i64 1024)] = some (.tup [.v (.int .i64 136), .v (.int .i64 0)]) := by kernel_rfl

end Go.AX.ME
