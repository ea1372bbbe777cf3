/- A part of the proof: RoF. -/
import Derived.Test.YtnkikepecbjfdaaAxX
import Derived.Test.YtnkikepecbjfdaaProg
import Derived.KernelRfl
namespace Go.AX.RO
open Go.Proofs

/-- The types that are compared by their cells. -/
def eqk : TypeId → Option (List (Option IntKind))
  | 25 => some [some .i64, some .u64]
  | _ => none

noncomputable def K : Ctx := ⟨Try.prog, fun _ => none, eqk⟩

theorem ag22 : agB K.P 22 = some false := by kernel_rfl
theorem ag23 : agB K.P 23 = some false := by kernel_rfl
theorem ag25 : agB K.P 25 = some true := by kernel_rfl
theorem ag27 : agB K.P 27 = some true := by kernel_rfl
theorem ag28 : agB K.P 28 = some false := by kernel_rfl
theorem ag3 : agB K.P 3 = some false := by kernel_rfl
theorem ag41 : agB K.P 41 = some true := by kernel_rfl
theorem ag42 : agB K.P 42 = some false := by kernel_rfl
theorem ag44 : agB K.P 44 = some true := by kernel_rfl
theorem ag46 : agB K.P 46 = some false := by kernel_rfl
theorem ag5 : agB K.P 5 = some false := by kernel_rfl
theorem ag58 : agB K.P 58 = some true := by kernel_rfl
theorem ag75 : agB K.P 75 = some true := by kernel_rfl
theorem bl25 : bldS K.P 25 = some [(0, 1), (1, 1)] := by kernel_rfl
theorem bl27 : bldS K.P 27 = some [(0, 1), (1, 1), (2, 1), (3, 1), (4, 2)] := by kernel_rfl
theorem bl41 : bldS K.P 41 = some [(0, 1), (1, 1), (2, 1), (3, 1), (4, 1), (5, 1), (6, 1), (7, 1), (8, 1), (9, 1), (10, 6), (16, 6), (22, 6), (28, 6), (34, 1), (35, 1), (36, 1), (37, 1), (38, 1), (39, 1)] := by kernel_rfl
theorem bl44 : bldS K.P 44 = some [(0, 40), (40, 1)] := by kernel_rfl
theorem bl58 : bldS K.P 58 = some [(0, 1), (1, 41)] := by kernel_rfl
theorem by27 : byOf K.P 27 = some 64 := by kernel_rfl
theorem by3 : byOf K.P 3 = some 8 := by kernel_rfl
theorem by44 : byOf K.P 44 = some 104 := by kernel_rfl
theorem by5 : byOf K.P 5 = some 1 := by kernel_rfl
theorem by58 : byOf K.P 58 = some 112 := by kernel_rfl
theorem by75 : byOf K.P 75 = some 120 := by kernel_rfl
theorem ek25 : K.eqk 25 = some [some .i64, some .u64] := by kernel_rfl
theorem el22 : elS K.P 22 = some 58 := by kernel_rfl
theorem el42 : elS K.P 42 = some 5 := by kernel_rfl
theorem el46 : elS K.P 46 = some 44 := by kernel_rfl
theorem el71 : elS K.P 71 = some 75 := by kernel_rfl
theorem el78 : elS K.P 78 = some 27 := by kernel_rfl
theorem el94 : elS K.P 94 = some 3 := by kernel_rfl
theorem fl25_0 : flE K.P 25 0 = some (0, 3) := by kernel_rfl
theorem fl25_1 : flE K.P 25 1 = some (1, 23) := by kernel_rfl
theorem fl27_0 : flE K.P 27 0 = some (0, 3) := by kernel_rfl
theorem fl27_1 : flE K.P 27 1 = some (1, 3) := by kernel_rfl
theorem fl27_2 : flE K.P 27 2 = some (2, 3) := by kernel_rfl
theorem fl27_3 : flE K.P 27 3 = some (3, 22) := by kernel_rfl
theorem fl27_4 : flE K.P 27 4 = some (4, 25) := by kernel_rfl
theorem fl41_14 : flE K.P 41 14 = some (34, 3) := by kernel_rfl
theorem fl44_0 : flE K.P 44 0 = some (0, 41) := by kernel_rfl
theorem fl44_1 : flE K.P 44 1 = some (40, 42) := by kernel_rfl
theorem fl58_0 : flE K.P 58 0 = some (0, 3) := by kernel_rfl
theorem fl58_1 : flE K.P 58 1 = some (1, 44) := by kernel_rfl
theorem fl75_0 : flE K.P 75 0 = some (0, 3) := by kernel_rfl
theorem fl75_1 : flE K.P 75 1 = some (1, 3) := by kernel_rfl
theorem fl75_2 : flE K.P 75 2 = some (2, 44) := by kernel_rfl
theorem in105 : inK K.P 105 = some .u64 := by kernel_rfl
theorem in23 : inK K.P 23 = some .u64 := by kernel_rfl
theorem in3 : inK K.P 3 = some .i64 := by kernel_rfl
theorem in5 : inK K.P 5 = some .u8 := by kernel_rfl
theorem isb4 : isBl K.P 4 = true := by kernel_rfl
theorem sz22 : szOf K.P 22 = some 1 := by kernel_rfl
theorem sz23 : szOf K.P 23 = some 1 := by kernel_rfl
theorem sz25 : szOf K.P 25 = some 2 := by kernel_rfl
theorem sz27 : szOf K.P 27 = some 6 := by kernel_rfl
theorem sz28 : szOf K.P 28 = some 1 := by kernel_rfl
theorem sz3 : szOf K.P 3 = some 1 := by kernel_rfl
theorem sz41 : szOf K.P 41 = some 40 := by kernel_rfl
theorem sz42 : szOf K.P 42 = some 1 := by kernel_rfl
theorem sz44 : szOf K.P 44 = some 41 := by kernel_rfl
theorem sz46 : szOf K.P 46 = some 1 := by kernel_rfl
theorem sz5 : szOf K.P 5 = some 1 := by kernel_rfl
theorem sz58 : szOf K.P 58 = some 42 := by kernel_rfl
theorem sz75 : szOf K.P 75 = some 43 := by kernel_rfl
theorem un105 : K.P.underlying 105 = some (.int .u64) := by kernel_rfl
theorem un22 : K.P.underlying 22 = some (.slice 58) := by kernel_rfl
theorem un23 : K.P.underlying 23 = some (.int .u64) := by kernel_rfl
theorem un3 : K.P.underlying 3 = some (.int .i64) := by kernel_rfl
theorem un42 : K.P.underlying 42 = some (.slice 5) := by kernel_rfl
theorem un46 : K.P.underlying 46 = some (.slice 44) := by kernel_rfl
theorem un71 : K.P.underlying 71 = some (.slice 75) := by kernel_rfl
theorem un78 : K.P.underlying 78 = some (.slice 27) := by kernel_rfl
theorem un94 : K.P.underlying 94 = some (.slice 3) := by kernel_rfl
theorem ze25 : zer K.P 25 = some [.v (.int .i64 0), .v (.int .u64 0)] := by kernel_rfl
theorem ze27 : zer K.P 27 = some [.v (.int .i64 0), .v (.int .i64 0), .v (.int .i64 0), .v (.slice none 0 0), .v (.int .i64 0), .v (.int .u64 0)] := by kernel_rfl
theorem ze28 : zer K.P 28 = some [.v (.int .i64 0)] := by kernel_rfl
theorem ze3 : zer K.P 3 = some [.v (.int .i64 0)] := by kernel_rfl
theorem ze41 : zer K.P 41 = some [.v (.int .u8 0), .v (.int .u8 0), .v (.bool false), .v (.bool false), .v (.bool false), .v (.bool false), .v (.bool false), .v (.bool false), .v (.bool false), .v (.int .i64 0), .v (.int .u8 0), .v (.int .u8 0), .v (.int .u8 0), .v (.int .u8 0), .v (.int .u8 0), .v (.int .u8 0), .v (.int .u8 0), .v (.int .u8 0), .v (.int .u8 0), .v (.int .u8 0), .v (.int .u8 0), .v (.int .u8 0), .v (.int .u8 0), .v (.int .u8 0), .v (.int .u8 0), .v (.int .u8 0), .v (.int .u8 0), .v (.int .u8 0), .v (.int .u8 0), .v (.int .u8 0), .v (.int .u8 0), .v (.int .u8 0), .v (.int .u8 0), .v (.int .u8 0), .v (.int .i64 0), .v (.int .i64 0), .v (.int .i64 0), .v (.int .u8 0), .v (.bool false), .v (.bool false)] := by kernel_rfl
theorem ze44 : zer K.P 44 = some [.v (.int .u8 0), .v (.int .u8 0), .v (.bool false), .v (.bool false), .v (.bool false), .v (.bool false), .v (.bool false), .v (.bool false), .v (.bool false), .v (.int .i64 0), .v (.int .u8 0), .v (.int .u8 0), .v (.int .u8 0), .v (.int .u8 0), .v (.int .u8 0), .v (.int .u8 0), .v (.int .u8 0), .v (.int .u8 0), .v (.int .u8 0), .v (.int .u8 0), .v (.int .u8 0), .v (.int .u8 0), .v (.int .u8 0), .v (.int .u8 0), .v (.int .u8 0), .v (.int .u8 0), .v (.int .u8 0), .v (.int .u8 0), .v (.int .u8 0), .v (.int .u8 0), .v (.int .u8 0), .v (.int .u8 0), .v (.int .u8 0), .v (.int .u8 0), .v (.int .i64 0), .v (.int .i64 0), .v (.int .i64 0), .v (.int .u8 0), .v (.bool false), .v (.bool false), .v (.slice none 0 0)] := by kernel_rfl
theorem ze46 : zer K.P 46 = some [.v (.slice none 0 0)] := by kernel_rfl
theorem ze5 : zer K.P 5 = some [.v (.int .u8 0)] := by kernel_rfl
theorem ze58 : zer K.P 58 = some [.v (.int .i64 0), .v (.int .u8 0), .v (.int .u8 0), .v (.bool false), .v (.bool false), .v (.bool false), .v (.bool false), .v (.bool false), .v (.bool false), .v (.bool false), .v (.int .i64 0), .v (.int .u8 0), .v (.int .u8 0), .v (.int .u8 0), .v (.int .u8 0), .v (.int .u8 0), .v (.int .u8 0), .v (.int .u8 0), .v (.int .u8 0), .v (.int .u8 0), .v (.int .u8 0), .v (.int .u8 0), .v (.int .u8 0), .v (.int .u8 0), .v (.int .u8 0), .v (.int .u8 0), .v (.int .u8 0), .v (.int .u8 0), .v (.int .u8 0), .v (.int .u8 0), .v (.int .u8 0), .v (.int .u8 0), .v (.int .u8 0), .v (.int .u8 0), .v (.int .u8 0), .v (.int .i64 0), .v (.int .i64 0), .v (.int .i64 0), .v (.int .u8 0), .v (.bool false), .v (.bool false), .v (.slice none 0 0)] := by kernel_rfl
theorem ze75 : zer K.P 75 = some [.v (.int .i64 0), .v (.int .i64 0), .v (.int .u8 0), .v (.int .u8 0), .v (.bool false), .v (.bool false), .v (.bool false), .v (.bool false), .v (.bool false), .v (.bool false), .v (.bool false), .v (.int .i64 0), .v (.int .u8 0), .v (.int .u8 0), .v (.int .u8 0), .v (.int .u8 0), .v (.int .u8 0), .v (.int .u8 0), .v (.int .u8 0), .v (.int .u8 0), .v (.int .u8 0), .v (.int .u8 0), .v (.int .u8 0), .v (.int .u8 0), .v (.int .u8 0), .v (.int .u8 0), .v (.int .u8 0), .v (.int .u8 0), .v (.int .u8 0), .v (.int .u8 0), .v (.int .u8 0), .v (.int .u8 0), .v (.int .u8 0), .v (.int .u8 0), .v (.int .u8 0), .v (.int .u8 0), .v (.int .i64 0), .v (.int .i64 0), .v (.int .i64 0), .v (.int .u8 0), .v (.bool false), .v (.bool false), .v (.slice none 0 0)] := by kernel_rfl
theorem rs2 : Try.f2.results = #[] := rfl
theorem rs3 : Try.f3.results = #[.tmp 6] := rfl
theorem rs4 : Try.f4.results = #[.tmp 4] := rfl
theorem rs5 : Try.f5.results = #[.tmp 6] := rfl
theorem rs6 : Try.f6.results = #[.tmp 4] := rfl
theorem rs7 : Try.f7.results = #[.tmp 8] := rfl
theorem rs8 : Try.f8.results = #[.tmp 8] := rfl
theorem rs9 : Try.f9.results = #[.tmp 4] := rfl
theorem rs10 : Try.f10.results = #[.tmp 0] := rfl
theorem rs11 : Try.f11.results = #[.cell 6 27, .tmp 7] := rfl
theorem rs12 : Try.f12.results = #[.cell 6 27, .tmp 7] := rfl
theorem rs13 : Try.f13.results = #[.tmp 4] := rfl
theorem rs14 : Try.f14.results = #[.tmp 2] := rfl
theorem rs15 : Try.f15.results = #[.tmp 2] := rfl
theorem rs16 : Try.f16.results = #[.tmp 4] := rfl
theorem rs17 : Try.f17.results = #[.cell 2 27] := rfl
theorem rs18 : Try.f18.results = #[.tmp 4, .cell 5 27, .tmp 6] := rfl
theorem rs19 : Try.f19.results = #[.tmp 4, .cell 5 27, .tmp 6] := rfl
theorem rs20 : Try.f20.results = #[.cell 4 46, .cell 5 27, .cell 6 28] := rfl
theorem rs21 : Try.f21.results = #[.tmp 4, .cell 5 27, .tmp 6] := rfl
theorem rs22 : Try.f22.results = #[.tmp 4] := rfl
theorem rs23 : Try.f23.results = #[.tmp 2, .tmp 3] := rfl
theorem rs24 : Try.f24.results = #[.tmp 2, .tmp 3] := rfl
theorem rs25 : Try.f25.results = #[.cell 2 25, .tmp 3] := rfl
theorem rs26 : Try.f26.results = #[.tmp 2] := rfl
theorem rs27 : Try.f27.results = #[.cell 2 44] := rfl
theorem rs28 : Try.f28.results = #[.tmp 6, .cell 7 27, .tmp 8] := rfl
theorem rs29 : Try.f29.results = #[.tmp 6, .cell 7 27, .tmp 8] := rfl
theorem rs30 : Try.f30.results = #[.tmp 4] := rfl
theorem rs31 : Try.f31.results = #[.tmp 0] := rfl
theorem rs32 : Try.f32.results = #[.tmp 4] := rfl
theorem rs33 : Try.f33.results = #[.cell 2 44] := rfl
theorem rs34 : Try.f34.results = #[.tmp 4] := rfl
theorem rs35 : Try.f35.results = #[.tmp 4] := rfl
theorem rs36 : Try.f36.results = #[.tmp 2] := rfl
theorem rs37 : Try.f37.results = #[.tmp 4, .cell 5 27, .tmp 6] := rfl
theorem rs38 : Try.f38.results = #[.tmp 4] := rfl
theorem rs39 : Try.f39.results = #[.tmp 2] := rfl
theorem rs40 : Try.f40.results = #[.tmp 2] := rfl
theorem rs41 : Try.f41.results = #[.tmp 2] := rfl
theorem rs42 : Try.f42.results = #[.tmp 2] := rfl
theorem rs43 : Try.f43.results = #[.tmp 2] := rfl
theorem rs44 : Try.f44.results = #[.tmp 4, .cell 5 27] := rfl
theorem rs45 : Try.f45.results = #[.tmp 4] := rfl
theorem rs46 : Try.f46.results = #[.tmp 4, .cell 5 27] := rfl
theorem rs47 : Try.f47.results = #[.tmp 2] := rfl
theorem rs48 : Try.f48.results = #[.tmp 2] := rfl
theorem rs49 : Try.f49.results = #[.cell 4 58] := rfl
theorem rs50 : Try.f50.results = #[.tmp 4] := rfl
theorem rs51 : Try.f51.results = #[.tmp 4, .tmp 5] := rfl
theorem rs52 : Try.f52.results = #[.cell 4 25] := rfl
theorem rs53 : Try.f53.results = #[.tmp 6] := rfl
theorem rs54 : Try.f54.results = #[.cell 2 44] := rfl
theorem rs55 : Try.f55.results = #[.tmp 4, .tmp 5] := rfl
theorem rs56 : Try.f56.results = #[.cell 4 25] := rfl
theorem rs57 : Try.f57.results = #[.tmp 4] := rfl
theorem rs58 : Try.f58.results = #[.tmp 2] := rfl
theorem rs59 : Try.f59.results = #[.tmp 2] := rfl
theorem rs60 : Try.f60.results = #[.tmp 4] := rfl
theorem rs61 : Try.f61.results = #[] := rfl
theorem rs62 : Try.f62.results = #[.tmp 6, .tmp 7] := rfl
theorem rs63 : Try.f63.results = #[.tmp 5] := rfl
theorem rs64 : Try.f64.results = #[.cell 4 25, .tmp 5] := rfl
theorem rs65 : Try.f65.results = #[.cell 4 25, .tmp 5] := rfl
theorem rs67 : Try.f67.results = #[] := rfl
theorem rs68 : Try.f68.results = #[.cell 4 25, .tmp 5] := rfl
theorem rs69 : Try.f69.results = #[.cell 4 25, .tmp 5] := rfl
theorem rs70 : Try.f70.results = #[] := rfl
theorem rs71 : Try.f71.results = #[.cell 4 25] := rfl
theorem rs72 : Try.f72.results = #[.tmp 2] := rfl
theorem rs73 : Try.f73.results = #[] := rfl
theorem rs74 : Try.f74.results = #[.tmp 2] := rfl
theorem rs75 : Try.f75.results = #[.tmp 4] := rfl

end Go.AX.RO

