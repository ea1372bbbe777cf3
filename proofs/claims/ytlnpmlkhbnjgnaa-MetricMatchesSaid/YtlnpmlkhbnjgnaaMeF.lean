/- A part of the proof: MeF. -/
import Derived.Test.YtlnpmlkhbnjgnaaAxY
import Derived.Test.YtlnpmlkhbnjgnaaProg
import Derived.KernelRfl
namespace Go.AX.ME
open Go.Proofs

/-- The types that are compared by their cells. -/
def eqk : TypeId → Option (List (Option IntKind))
  | _ => none

noncomputable def K : Ctx := ⟨Try.prog, fun _ => none, eqk⟩

theorem ag3 : agB K.P 3 = some false := by kernel_rfl
theorem ag31 : agB K.P 31 = some false := by kernel_rfl
theorem ag33 : agB K.P 33 = some true := by kernel_rfl
theorem ag36 : agB K.P 36 = some true := by kernel_rfl
theorem ag38 : agB K.P 38 = some true := by kernel_rfl
theorem ag4 : agB K.P 4 = some false := by kernel_rfl
theorem ag5 : agB K.P 5 = some false := by kernel_rfl
theorem ag81 : agB K.P 81 = some true := by kernel_rfl
theorem ag82 : agB K.P 82 = some true := by kernel_rfl
theorem ar36 : arE K.P 36 = some (6, 5) := by kernel_rfl
theorem ar82 : arE K.P 82 = some (12, 81) := by kernel_rfl
theorem bl33 : bldS K.P 33 = some [(0, 1)] := by kernel_rfl
theorem bl36 : bldS K.P 36 = none := by kernel_rfl
theorem bl38 : bldS K.P 38 = some [(0, 6), (6, 1), (7, 1), (8, 1)] := by kernel_rfl
theorem bl81 : bldS K.P 81 = some [(0, 1), (1, 1), (2, 1)] := by kernel_rfl
theorem bl82 : bldS K.P 82 = none := by kernel_rfl
theorem by3 : byOf K.P 3 = some 8 := by kernel_rfl
theorem by36 : byOf K.P 36 = some 6 := by kernel_rfl
theorem by38 : byOf K.P 38 = some 32 := by kernel_rfl
theorem by47 : byOf K.P 47 = some 32 := by kernel_rfl
theorem by81 : byOf K.P 81 = some 24 := by kernel_rfl
theorem el31 : elS K.P 31 = some 38 := by kernel_rfl
theorem el45 : elS K.P 45 = some 47 := by kernel_rfl
theorem el53 : elS K.P 53 = some 36 := by kernel_rfl
theorem el96 : elS K.P 96 = some 81 := by kernel_rfl
theorem el99 : elS K.P 99 = some 3 := by kernel_rfl
theorem fl33_0 : flE K.P 33 0 = some (0, 31) := by kernel_rfl
theorem fl38_0 : flE K.P 38 0 = some (0, 36) := by kernel_rfl
theorem fl38_1 : flE K.P 38 1 = some (6, 3) := by kernel_rfl
theorem fl38_2 : flE K.P 38 2 = some (7, 3) := by kernel_rfl
theorem fl38_3 : flE K.P 38 3 = some (8, 3) := by kernel_rfl
theorem fl47_0 : flE K.P 47 0 = some (0, 36) := by kernel_rfl
theorem fl47_1 : flE K.P 47 1 = some (6, 3) := by kernel_rfl
theorem fl47_2 : flE K.P 47 2 = some (7, 4) := by kernel_rfl
theorem fl47_3 : flE K.P 47 3 = some (8, 3) := by kernel_rfl
theorem fl81_0 : flE K.P 81 0 = some (0, 3) := by kernel_rfl
theorem fl81_2 : flE K.P 81 2 = some (2, 4) := by kernel_rfl
theorem in3 : inK K.P 3 = some .i64 := by kernel_rfl
theorem in92 : inK K.P 92 = some .u64 := by kernel_rfl
theorem sz3 : szOf K.P 3 = some 1 := by kernel_rfl
theorem sz31 : szOf K.P 31 = some 1 := by kernel_rfl
theorem sz33 : szOf K.P 33 = some 1 := by kernel_rfl
theorem sz36 : szOf K.P 36 = some 6 := by kernel_rfl
theorem sz38 : szOf K.P 38 = some 9 := by kernel_rfl
theorem sz4 : szOf K.P 4 = some 1 := by kernel_rfl
theorem sz47 : szOf K.P 47 = some 9 := by kernel_rfl
theorem sz5 : szOf K.P 5 = some 1 := by kernel_rfl
theorem sz81 : szOf K.P 81 = some 3 := by kernel_rfl
theorem sz82 : szOf K.P 82 = some 36 := by kernel_rfl
theorem un3 : K.P.underlying 3 = some (.int .i64) := by kernel_rfl
theorem un31 : K.P.underlying 31 = some (.slice 38) := by kernel_rfl
theorem un36 : K.P.underlying 36 = some (.array 6 5) := by kernel_rfl
theorem un45 : K.P.underlying 45 = some (.slice 47) := by kernel_rfl
theorem un53 : K.P.underlying 53 = some (.slice 36) := by kernel_rfl
theorem un82 : K.P.underlying 82 = some (.array 12 81) := by kernel_rfl
theorem un92 : K.P.underlying 92 = some (.int .u64) := by kernel_rfl
theorem un96 : K.P.underlying 96 = some (.slice 81) := by kernel_rfl
theorem un99 : K.P.underlying 99 = some (.slice 3) := by kernel_rfl
theorem ze3 : zer K.P 3 = some [.v (.int .i64 0)] := by kernel_rfl
theorem ze33 : zer K.P 33 = some [.v (.slice none 0 0)] := by kernel_rfl
theorem ze36 : zer K.P 36 = some [.v (.int .u8 0), .v (.int .u8 0), .v (.int .u8 0), .v (.int .u8 0), .v (.int .u8 0), .v (.int .u8 0)] := by kernel_rfl
theorem ze38 : zer K.P 38 = some [.v (.int .u8 0), .v (.int .u8 0), .v (.int .u8 0), .v (.int .u8 0), .v (.int .u8 0), .v (.int .u8 0), .v (.int .i64 0), .v (.int .i64 0), .v (.int .i64 0)] := by kernel_rfl
theorem ze47 : zer K.P 47 = some [.v (.int .u8 0), .v (.int .u8 0), .v (.int .u8 0), .v (.int .u8 0), .v (.int .u8 0), .v (.int .u8 0), .v (.int .i64 0), .v (.bool false), .v (.int .i64 0)] := by kernel_rfl
theorem ze81 : zer K.P 81 = some [.v (.int .i64 0), .v (.int .i64 0), .v (.bool false)] := by kernel_rfl
theorem ze82 : zer K.P 82 = some [.v (.int .i64 0), .v (.int .i64 0), .v (.bool false), .v (.int .i64 0), .v (.int .i64 0), .v (.bool false), .v (.int .i64 0), .v (.int .i64 0), .v (.bool false), .v (.int .i64 0), .v (.int .i64 0), .v (.bool false), .v (.int .i64 0), .v (.int .i64 0), .v (.bool false), .v (.int .i64 0), .v (.int .i64 0), .v (.bool false), .v (.int .i64 0), .v (.int .i64 0), .v (.bool false), .v (.int .i64 0), .v (.int .i64 0), .v (.bool false), .v (.int .i64 0), .v (.int .i64 0), .v (.bool false), .v (.int .i64 0), .v (.int .i64 0), .v (.bool false), .v (.int .i64 0), .v (.int .i64 0), .v (.bool false), .v (.int .i64 0), .v (.int .i64 0), .v (.bool false)] := by kernel_rfl
theorem rs2 : Try.f2.results = #[] := rfl
theorem rs3 : Try.f3.results = #[.tmp 8] := rfl
theorem rs4 : Try.f4.results = #[.tmp 8] := rfl
theorem rs5 : Try.f5.results = #[.tmp 2] := rfl
theorem rs6 : Try.f6.results = #[.tmp 8] := rfl
theorem rs7 : Try.f7.results = #[.tmp 6] := rfl
theorem rs8 : Try.f8.results = #[.tmp 2] := rfl
theorem rs9 : Try.f9.results = #[.tmp 0] := rfl
theorem rs10 : Try.f10.results = #[.tmp 10] := rfl
theorem rs11 : Try.f11.results = #[.tmp 4] := rfl
theorem rs12 : Try.f12.results = #[.tmp 4, .tmp 5] := rfl
theorem rs13 : Try.f13.results = #[.tmp 4, .tmp 5] := rfl
theorem rs14 : Try.f14.results = #[.tmp 4] := rfl
theorem rs15 : Try.f15.results = #[.tmp 4] := rfl
theorem rs16 : Try.f16.results = #[.tmp 0] := rfl
theorem rs17 : Try.f17.results = #[.tmp 2] := rfl
theorem rs18 : Try.f18.results = #[.cell 2 33] := rfl
theorem rs19 : Try.f19.results = #[.cell 10 33, .tmp 11] := rfl
theorem rs20 : Try.f20.results = #[.tmp 4] := rfl
theorem rs21 : Try.f21.results = #[.cell 10 33, .tmp 11] := rfl
theorem rs22 : Try.f22.results = #[.tmp 6, .tmp 7] := rfl
theorem rs23 : Try.f23.results = #[.tmp 6, .tmp 7] := rfl
theorem rs24 : Try.f24.results = #[.cell 4 33, .tmp 5, .tmp 6] := rfl
theorem rs25 : Try.f25.results = #[.cell 4 33, .tmp 5, .tmp 6] := rfl
theorem rs26 : Try.f26.results = #[.tmp 4] := rfl
theorem rs27 : Try.f27.results = #[.tmp 2] := rfl
theorem rs28 : Try.f28.results = #[.tmp 4, .tmp 5] := rfl
theorem rs29 : Try.f29.results = #[.tmp 4, .tmp 5] := rfl
theorem rs30 : Try.f30.results = #[.tmp 2] := rfl
theorem rs31 : Try.f31.results = #[.tmp 2] := rfl
theorem rs32 : Try.f32.results = #[.tmp 2] := rfl
theorem rs33 : Try.f33.results = #[.tmp 4] := rfl
theorem rs34 : Try.f34.results = #[.tmp 4] := rfl
theorem rs35 : Try.f35.results = #[.tmp 0] := rfl
theorem rs36 : Try.f36.results = #[.tmp 4, .tmp 5] := rfl
theorem rs37 : Try.f37.results = #[.tmp 2] := rfl
theorem rs38 : Try.f38.results = #[.tmp 6] := rfl
theorem rs39 : Try.f39.results = #[.tmp 4] := rfl
theorem rs40 : Try.f40.results = #[.tmp 4] := rfl
theorem rs41 : Try.f41.results = #[.tmp 2] := rfl
theorem rs42 : Try.f42.results = #[.tmp 4, .tmp 5] := rfl
theorem rs43 : Try.f43.results = #[.tmp 4, .tmp 5] := rfl
theorem rs44 : Try.f44.results = #[.tmp 2, .tmp 3] := rfl
theorem rs45 : Try.f45.results = #[.tmp 4, .tmp 5] := rfl
theorem rs46 : Try.f46.results = #[.tmp 4, .tmp 5] := rfl
theorem rs47 : Try.f47.results = #[.tmp 4] := rfl
theorem rs48 : Try.f48.results = #[.cell 0 82] := rfl
theorem rs49 : Try.f49.results = #[.tmp 6, .tmp 7] := rfl
theorem rs50 : Try.f50.results = #[.tmp 4] := rfl
theorem rs52 : Try.f52.results = #[] := rfl
theorem rs53 : Try.f53.results = #[.tmp 3] := rfl
theorem rs54 : Try.f54.results = #[.tmp 4, .tmp 5] := rfl
theorem rs55 : Try.f55.results = #[.tmp 4, .tmp 5] := rfl
theorem rs56 : Try.f56.results = #[.cell 2 81, .tmp 3] := rfl
theorem rs57 : Try.f57.results = #[.tmp 2, .tmp 3] := rfl
theorem rs59 : Try.f59.results = #[] := rfl
theorem rs60 : Try.f60.results = #[.cell 2 81, .tmp 3] := rfl
theorem rs61 : Try.f61.results = #[.tmp 4, .tmp 5] := rfl
theorem rs62 : Try.f62.results = #[.tmp 0] := rfl
theorem rs63 : Try.f63.results = #[] := rfl
theorem rs64 : Try.f64.results = #[.tmp 2, .tmp 3] := rfl

end Go.AX.ME

