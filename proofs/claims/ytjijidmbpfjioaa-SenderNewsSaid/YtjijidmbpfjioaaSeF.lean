/- A part of the proof: SeF. -/
import Derived.Test.YtjijidmbpfjioaaAxZd
import Derived.Test.YtjijidmbpfjioaaSeS
import Derived.Test.YtjijidmbpfjioaaProg
import Derived.KernelRfl
namespace Go.AX.SE
open Go.Proofs

/-- The types that are compared by their cells. -/
def tab : List (TypeId × List (Option IntKind)) :=
  [(29, [some .u8, some .u8, none, none, none, none, none, none, none, some .i64, some .u8, some .u8, some .u8, some .u8, some .u8, some .u8, some .u8, some .u8, some .u8, some .u8, some .u8, some .u8, some .u8, some .u8, some .u8, some .u8, some .u8, some .u8, some .u8, some .u8, some .u8, some .u8, some .u8, some .u8, some .i64, some .i64, some .i64, some .u8, none, none]),
   (67, [some .i64, some .i64, some .i64, some .i64])]

noncomputable def K : Ctx := ⟨Try.prog, fun _ => none, tabK tab⟩

theorem ag22 : agB K.P 22 = some false := by kernel_rfl
theorem ag24 : agB K.P 24 = some true := by kernel_rfl
theorem ag29 : agB K.P 29 = some true := by kernel_rfl
theorem ag3 : agB K.P 3 = some false := by kernel_rfl
theorem ag30 : agB K.P 30 = some false := by kernel_rfl
theorem ag32 : agB K.P 32 = some true := by kernel_rfl
theorem ag4 : agB K.P 4 = some false := by kernel_rfl
theorem ag48 : agB K.P 48 = some false := by kernel_rfl
theorem ag5 : agB K.P 5 = some false := by kernel_rfl
theorem ag51 : agB K.P 51 = some false := by kernel_rfl
theorem ag53 : agB K.P 53 = some true := by kernel_rfl
theorem ag57 : agB K.P 57 = some false := by kernel_rfl
theorem ag67 : agB K.P 67 = some true := by kernel_rfl
theorem ag69 : agB K.P 69 = some true := by kernel_rfl
theorem ag73 : agB K.P 73 = some true := by kernel_rfl
theorem ag75 : agB K.P 75 = some true := by kernel_rfl
theorem ag78 : agB K.P 78 = some true := by kernel_rfl
theorem ag95 : agB K.P 95 = some false := by kernel_rfl
theorem ar65 : arE K.P 65 = some (4096, 3) := by kernel_rfl
theorem bl24 : bldS K.P 24 = some [(0, 1), (1, 1), (2, 1), (3, 1), (4, 1), (5, 1), (6, 1), (7, 1), (8, 1)] := by kernel_rfl
theorem bl32 : bldS K.P 32 = some [(0, 40), (40, 1)] := by kernel_rfl
theorem bl53 : bldS K.P 53 = some [(0, 1), (1, 1)] := by kernel_rfl
theorem bl65 : bldS K.P 65 = none := by kernel_rfl
theorem bl67 : bldS K.P 67 = some [(0, 1), (1, 1), (2, 1), (3, 1)] := by kernel_rfl
theorem bl73 : bldS K.P 73 = some [(0, 1), (1, 1), (2, 1), (3, 1)] := by kernel_rfl
theorem bl78 : bldS K.P 78 = some [(0, 1), (1, 1), (2, 1), (3, 41)] := by kernel_rfl
theorem by3 : byOf K.P 3 = some 8 := by kernel_rfl
theorem by32 : byOf K.P 32 = some 104 := by kernel_rfl
theorem by5 : byOf K.P 5 = some 1 := by kernel_rfl
theorem by75 : byOf K.P 75 = some 168 := by kernel_rfl
theorem by78 : byOf K.P 78 = some 128 := by kernel_rfl
theorem ek29 : K.eqk 29 = some [some .u8, some .u8, none, none, none, none, none, none, none, some .i64, some .u8, some .u8, some .u8, some .u8, some .u8, some .u8, some .u8, some .u8, some .u8, some .u8, some .u8, some .u8, some .u8, some .u8, some .u8, some .u8, some .u8, some .u8, some .u8, some .u8, some .u8, some .u8, some .u8, some .u8, some .i64, some .i64, some .i64, some .u8, none, none] := by kernel_rfl
theorem ek67 : K.eqk 67 = some [some .i64, some .i64, some .i64, some .i64] := by kernel_rfl
theorem el22 : elS K.P 22 = some 78 := by kernel_rfl
theorem el30 : elS K.P 30 = some 5 := by kernel_rfl
theorem el48 : elS K.P 48 = some 32 := by kernel_rfl
theorem el57 : elS K.P 57 = some 3 := by kernel_rfl
theorem el63 : elS K.P 63 = some 75 := by kernel_rfl
theorem fl24_0 : flE K.P 24 0 = some (0, 3) := by kernel_rfl
theorem fl24_1 : flE K.P 24 1 = some (1, 5) := by kernel_rfl
theorem fl24_2 : flE K.P 24 2 = some (2, 3) := by kernel_rfl
theorem fl24_3 : flE K.P 24 3 = some (3, 3) := by kernel_rfl
theorem fl24_4 : flE K.P 24 4 = some (4, 3) := by kernel_rfl
theorem fl24_5 : flE K.P 24 5 = some (5, 3) := by kernel_rfl
theorem fl24_6 : flE K.P 24 6 = some (6, 3) := by kernel_rfl
theorem fl24_7 : flE K.P 24 7 = some (7, 22) := by kernel_rfl
theorem fl24_8 : flE K.P 24 8 = some (8, 4) := by kernel_rfl
theorem fl29_14 : flE K.P 29 14 = some (34, 3) := by kernel_rfl
theorem fl29_16 : flE K.P 29 16 = some (36, 3) := by kernel_rfl
theorem fl29_5 : flE K.P 29 5 = some (5, 4) := by kernel_rfl
theorem fl32_0 : flE K.P 32 0 = some (0, 29) := by kernel_rfl
theorem fl32_1 : flE K.P 32 1 = some (40, 30) := by kernel_rfl
theorem fl53_0 : flE K.P 53 0 = some (0, 3) := by kernel_rfl
theorem fl53_1 : flE K.P 53 1 = some (1, 51) := by kernel_rfl
theorem fl67_0 : flE K.P 67 0 = some (0, 3) := by kernel_rfl
theorem fl67_1 : flE K.P 67 1 = some (1, 3) := by kernel_rfl
theorem fl67_2 : flE K.P 67 2 = some (2, 3) := by kernel_rfl
theorem fl67_3 : flE K.P 67 3 = some (3, 3) := by kernel_rfl
theorem fl69_0 : flE K.P 69 0 = some (0, 67) := by kernel_rfl
theorem fl69_1 : flE K.P 69 1 = some (4, 48) := by kernel_rfl
theorem fl69_2 : flE K.P 69 2 = some (5, 57) := by kernel_rfl
theorem fl73_0 : flE K.P 73 0 = some (0, 3) := by kernel_rfl
theorem fl73_1 : flE K.P 73 1 = some (1, 3) := by kernel_rfl
theorem fl73_2 : flE K.P 73 2 = some (2, 3) := by kernel_rfl
theorem fl73_3 : flE K.P 73 3 = some (3, 3) := by kernel_rfl
theorem fl75_0 : flE K.P 75 0 = some (0, 3) := by kernel_rfl
theorem fl75_1 : flE K.P 75 1 = some (1, 3) := by kernel_rfl
theorem fl75_2 : flE K.P 75 2 = some (2, 32) := by kernel_rfl
theorem fl75_3 : flE K.P 75 3 = some (43, 53) := by kernel_rfl
theorem fl75_4 : flE K.P 75 4 = some (45, 73) := by kernel_rfl
theorem fl78_0 : flE K.P 78 0 = some (0, 3) := by kernel_rfl
theorem fl78_1 : flE K.P 78 1 = some (1, 3) := by kernel_rfl
theorem fl78_2 : flE K.P 78 2 = some (2, 4) := by kernel_rfl
theorem fl78_3 : flE K.P 78 3 = some (3, 32) := by kernel_rfl
theorem in3 : inK K.P 3 = some .i64 := by kernel_rfl
theorem in51 : inK K.P 51 = some .u64 := by kernel_rfl
theorem isb4 : isBl K.P 4 = true := by kernel_rfl
theorem sz22 : szOf K.P 22 = some 1 := by kernel_rfl
theorem sz24 : szOf K.P 24 = some 9 := by kernel_rfl
theorem sz29 : szOf K.P 29 = some 40 := by kernel_rfl
theorem sz3 : szOf K.P 3 = some 1 := by kernel_rfl
theorem sz30 : szOf K.P 30 = some 1 := by kernel_rfl
theorem sz32 : szOf K.P 32 = some 41 := by kernel_rfl
theorem sz4 : szOf K.P 4 = some 1 := by kernel_rfl
theorem sz48 : szOf K.P 48 = some 1 := by kernel_rfl
theorem sz5 : szOf K.P 5 = some 1 := by kernel_rfl
theorem sz51 : szOf K.P 51 = some 1 := by kernel_rfl
theorem sz53 : szOf K.P 53 = some 2 := by kernel_rfl
theorem sz57 : szOf K.P 57 = some 1 := by kernel_rfl
theorem sz65 : szOf K.P 65 = some 4096 := by kernel_rfl
theorem sz67 : szOf K.P 67 = some 4 := by kernel_rfl
theorem sz69 : szOf K.P 69 = some 6 := by kernel_rfl
theorem sz73 : szOf K.P 73 = some 4 := by kernel_rfl
theorem sz75 : szOf K.P 75 = some 49 := by kernel_rfl
theorem sz78 : szOf K.P 78 = some 44 := by kernel_rfl
theorem sz95 : szOf K.P 95 = some 1 := by kernel_rfl
theorem un22 : K.P.underlying 22 = some (.slice 78) := by kernel_rfl
theorem un3 : K.P.underlying 3 = some (.int .i64) := by kernel_rfl
theorem un30 : K.P.underlying 30 = some (.slice 5) := by kernel_rfl
theorem un48 : K.P.underlying 48 = some (.slice 32) := by kernel_rfl
theorem un51 : K.P.underlying 51 = some (.int .u64) := by kernel_rfl
theorem un57 : K.P.underlying 57 = some (.slice 3) := by kernel_rfl
theorem un63 : K.P.underlying 63 = some (.slice 75) := by kernel_rfl
theorem un65 : K.P.underlying 65 = some (.array 4096 3) := by kernel_rfl
theorem ze24 : zer K.P 24 = some (sd Sd.z vnil) := by kernel_rfl
theorem ze3 : zer K.P 3 = some [.v (.int .i64 0)] := by kernel_rfl
theorem ze32 : zer K.P 32 = some (fr Fh.z vnil) := by kernel_rfl
theorem ze5 : zer K.P 5 = some [.v (.int .u8 0)] := by kernel_rfl
theorem ze53 : zer K.P 53 = some [.v (.int .i64 0), .v (.int .u64 0)] := by kernel_rfl
theorem ze57 : zer K.P 57 = some [.v (.slice none 0 0)] := by kernel_rfl
theorem ze67 : zer K.P 67 = some [.v (.int .i64 0), .v (.int .i64 0), .v (.int .i64 0), .v (.int .i64 0)] := by kernel_rfl
theorem ze69 : zer K.P 69 = some [.v (.int .i64 0), .v (.int .i64 0), .v (.int .i64 0), .v (.int .i64 0), .v (.slice none 0 0), .v (.slice none 0 0)] := by kernel_rfl
theorem ze73 : zer K.P 73 = some [.v (.int .i64 0), .v (.int .i64 0), .v (.int .i64 0), .v (.int .i64 0)] := by kernel_rfl
theorem ze75 : zer K.P 75 = some [.v (.int .i64 0), .v (.int .i64 0), .v (.int .u8 0), .v (.int .u8 0), .v (.bool false), .v (.bool false), .v (.bool false), .v (.bool false), .v (.bool false), .v (.bool false), .v (.bool false), .v (.int .i64 0), .v (.int .u8 0), .v (.int .u8 0), .v (.int .u8 0), .v (.int .u8 0), .v (.int .u8 0), .v (.int .u8 0), .v (.int .u8 0), .v (.int .u8 0), .v (.int .u8 0), .v (.int .u8 0), .v (.int .u8 0), .v (.int .u8 0), .v (.int .u8 0), .v (.int .u8 0), .v (.int .u8 0), .v (.int .u8 0), .v (.int .u8 0), .v (.int .u8 0), .v (.int .u8 0), .v (.int .u8 0), .v (.int .u8 0), .v (.int .u8 0), .v (.int .u8 0), .v (.int .u8 0), .v (.int .i64 0), .v (.int .i64 0), .v (.int .i64 0), .v (.int .u8 0), .v (.bool false), .v (.bool false), .v (.slice none 0 0), .v (.int .i64 0), .v (.int .u64 0), .v (.int .i64 0), .v (.int .i64 0), .v (.int .i64 0), .v (.int .i64 0)] := by kernel_rfl
theorem ze78 : zer K.P 78 = some (un Uh.z vnil) := by kernel_rfl
attribute [go_sem] ag22 ag24 ag29 ag3 ag30 ag32 ag4 ag48 ag5 ag51 ag53 ag57 ag67 ag69 ag73 ag75 ag78 ag95 ar65 bl24 bl32 bl53 bl65 bl67 bl73 bl78 by3 by32 by5 by75 by78 ek29 ek67 el22 el30 el48 el57 el63 fl24_0 fl24_1 fl24_2 fl24_3 fl24_4 fl24_5 fl24_6 fl24_7 fl24_8 fl29_14 fl29_16 fl29_5 fl32_0 fl32_1 fl53_0 fl53_1 fl67_0 fl67_1 fl67_2 fl67_3 fl69_0 fl69_1 fl69_2 fl73_0 fl73_1 fl73_2 fl73_3 fl75_0 fl75_1 fl75_2 fl75_3 fl75_4 fl78_0 fl78_1 fl78_2 fl78_3 in3 in51 isb4 sz22 sz24 sz29 sz3 sz30 sz32 sz4 sz48 sz5 sz51 sz53 sz57 sz65 sz67 sz69 sz73 sz75 sz78 sz95 un22 un3 un30 un48 un51 un57 un63 un65 ze24 ze3 ze32 ze5 ze53 ze57 ze67 ze69 ze73 ze75 ze78
theorem mixed : K.P.follows .mixedOrders = true := by kernel_rfl
theorem hC : COk K := ⟨EqOk.of_tab rfl (by kernel_rfl), mixed⟩
theorem rs2 : Try.f2.results = #[] := rfl
theorem rs3 : Try.f3.results = #[.tmp 10] := rfl
theorem rs4 : Try.f4.results = #[.tmp 8] := rfl
theorem rs5 : Try.f5.results = #[.tmp 10] := rfl
theorem rs6 : Try.f6.results = #[.tmp 10] := rfl
theorem rs7 : Try.f7.results = #[.tmp 10] := rfl
theorem rs8 : Try.f8.results = #[.tmp 4] := rfl
theorem rs9 : Try.f9.results = #[.cell 8 24, .tmp 9] := rfl
theorem rs10 : Try.f10.results = #[.cell 8 24, .tmp 9] := rfl
theorem rs11 : Try.f11.results = #[.tmp 2] := rfl
theorem rs12 : Try.f12.results = #[.tmp 2] := rfl
theorem rs13 : Try.f13.results = #[.tmp 4] := rfl
theorem rs14 : Try.f14.results = #[.tmp 2] := rfl
theorem rs15 : Try.f15.results = #[.tmp 2] := rfl
theorem rs16 : Try.f16.results = #[.tmp 0] := rfl
theorem rs17 : Try.f17.results = #[.cell 10 24, .tmp 11] := rfl
theorem rs18 : Try.f18.results = #[.cell 6 32, .cell 7 24, .tmp 8] := rfl
theorem rs19 : Try.f19.results = #[.tmp 4, .cell 5 24, .tmp 6] := rfl
theorem rs20 : Try.f20.results = #[.cell 2 53, .tmp 3] := rfl
theorem rs21 : Try.f21.results = #[.cell 4 53, .tmp 5] := rfl
theorem rs22 : Try.f22.results = #[.tmp 4, .cell 5 24, .tmp 6] := rfl
theorem rs23 : Try.f23.results = #[.tmp 4, .cell 5 24, .tmp 6] := rfl
theorem rs24 : Try.f24.results = #[.tmp 4] := rfl
theorem rs25 : Try.f25.results = #[.tmp 2] := rfl
theorem rs26 : Try.f26.results = #[.cell 4 69, .cell 5 24, .tmp 6] := rfl
theorem rs27 : Try.f27.results = #[.tmp 4] := rfl
theorem rs28 : Try.f28.results = #[.tmp 6] := rfl
theorem rs29 : Try.f29.results = #[.tmp 2] := rfl
theorem rs30 : Try.f30.results = #[.tmp 6] := rfl
theorem rs31 : Try.f31.results = #[.tmp 2] := rfl
theorem rs32 : Try.f32.results = #[.tmp 4] := rfl
theorem rs33 : Try.f33.results = #[.tmp 4] := rfl
theorem rs34 : Try.f34.results = #[.tmp 2] := rfl
theorem rs35 : Try.f35.results = #[.tmp 6] := rfl
theorem rs36 : Try.f36.results = #[.cell 4 67, .cell 5 24, .tmp 6] := rfl
theorem rs37 : Try.f37.results = #[.cell 4 24, .tmp 5] := rfl
theorem rs38 : Try.f38.results = #[.tmp 4] := rfl
theorem rs39 : Try.f39.results = #[.cell 4 24, .tmp 5] := rfl
theorem rs40 : Try.f40.results = #[.cell 2 32] := rfl
theorem rs41 : Try.f41.results = #[.tmp 2] := rfl
theorem rs42 : Try.f42.results = #[.tmp 4] := rfl
theorem rs43 : Try.f43.results = #[.tmp 2] := rfl
theorem rs44 : Try.f44.results = #[.cell 4 57] := rfl
theorem rs45 : Try.f45.results = #[.tmp 3] := rfl
theorem rs46 : Try.f46.results = #[.tmp 4] := rfl
theorem rs47 : Try.f47.results = #[] := rfl
theorem rs48 : Try.f48.results = #[.tmp 4] := rfl
theorem rs49 : Try.f49.results = #[.tmp 2, .cell 3 24, .tmp 4] := rfl
theorem rs50 : Try.f50.results = #[.cell 2 24, .tmp 3] := rfl
theorem rs51 : Try.f51.results = #[.cell 2 24, .tmp 3] := rfl
theorem rs52 : Try.f52.results = #[.tmp 2] := rfl
theorem rs53 : Try.f53.results = #[.cell 2 24] := rfl
theorem rs54 : Try.f54.results = #[.tmp 4] := rfl
theorem rs55 : Try.f55.results = #[.tmp 4] := rfl
theorem rs56 : Try.f56.results = #[.tmp 4] := rfl

end Go.AX.SE

