/- Facts on the types of the program. -/
import Derived.Test.YtlbdpnlmdcajbaaProg
import Derived.Test.YtlbdpnlmdcajbaaMC
namespace Go.Proofs.Ytlbdpnlmdcajbaa
set_option linter.unusedVariables false

theorem tS1 : tS Try.prog 1 = some 1 := by kernel_rfl
theorem tA1 : tA Try.prog 1 = some false := by kernel_rfl
theorem tB1 : tB Try.prog 1 = some 8 := by kernel_rfl
theorem tZ1 : tZ Try.prog 1 = some [.nilFunc] := by kernel_rfl
theorem tS2 : tS Try.prog 2 = some 1 := by kernel_rfl
theorem tA2 : tA Try.prog 2 = some false := by kernel_rfl
theorem tB2 : tB Try.prog 2 = some 8 := by kernel_rfl
theorem tZ2 : tZ Try.prog 2 = some [.int .i64 0] := by kernel_rfl
theorem tU2 : Try.prog.underlying 2 = some (.int .i64) := by kernel_rfl
theorem tS3 : tS Try.prog 3 = some 1 := by kernel_rfl
theorem tA3 : tA Try.prog 3 = some false := by kernel_rfl
theorem tB3 : tB Try.prog 3 = some 8 := by kernel_rfl
theorem tZ3 : tZ Try.prog 3 = some [.int .i64 0] := by kernel_rfl
theorem tU3 : Try.prog.underlying 3 = some (.int .i64) := by kernel_rfl
theorem tS4 : tS Try.prog 4 = some 1 := by kernel_rfl
theorem tA4 : tA Try.prog 4 = some false := by kernel_rfl
theorem tB4 : tB Try.prog 4 = some 1 := by kernel_rfl
theorem tZ4 : tZ Try.prog 4 = some [.bool false] := by kernel_rfl
theorem tU4 : Try.prog.underlying 4 = some .bool := by kernel_rfl
theorem tS5 : tS Try.prog 5 = some 1 := by kernel_rfl
theorem tA5 : tA Try.prog 5 = some false := by kernel_rfl
theorem tB5 : tB Try.prog 5 = some 1 := by kernel_rfl
theorem tZ5 : tZ Try.prog 5 = some [.int .u8 0] := by kernel_rfl
theorem tU5 : Try.prog.underlying 5 = some (.int .u8) := by kernel_rfl
theorem tS6 : tS Try.prog 6 = some 1 := by kernel_rfl
theorem tA6 : tA Try.prog 6 = some false := by kernel_rfl
theorem tB6 : tB Try.prog 6 = some 1 := by kernel_rfl
theorem tZ6 : tZ Try.prog 6 = some [.int .u8 0] := by kernel_rfl
theorem tU6 : Try.prog.underlying 6 = some (.int .u8) := by kernel_rfl
theorem tS7 : tS Try.prog 7 = some 4 := by kernel_rfl
theorem tA7 : tA Try.prog 7 = some true := by kernel_rfl
theorem tB7 : tB Try.prog 7 = some 24 := by kernel_rfl
theorem tZ7 : tZ Try.prog 7 = some [.int .i64 0, .int .i64 0, .bool false, .int .u8 0] := by kernel_rfl
theorem tF7_0 : tF Try.prog 7 0 = some (0, 2) := by kernel_rfl
theorem tF7_1 : tF Try.prog 7 1 = some (1, 3) := by kernel_rfl
theorem tF7_2 : tF Try.prog 7 2 = some (2, 4) := by kernel_rfl
theorem tF7_3 : tF Try.prog 7 3 = some (3, 6) := by kernel_rfl
theorem tP7 : tP Try.prog 7 = some [(0, 1), (1, 1), (2, 1), (3, 1)] := by kernel_rfl
theorem tS9 : tS Try.prog 9 = some 1 := by kernel_rfl
theorem tA9 : tA Try.prog 9 = some false := by kernel_rfl
theorem tB9 : tB Try.prog 9 = some 16 := by kernel_rfl
theorem tZ9 : tZ Try.prog 9 = some [.string ⟨#[]⟩] := by kernel_rfl
theorem tU9 : Try.prog.underlying 9 = some .string := by kernel_rfl
theorem tS12 : tS Try.prog 12 = some 1 := by kernel_rfl
theorem tA12 : tA Try.prog 12 = some false := by kernel_rfl
theorem tB12 : tB Try.prog 12 = some 8 := by kernel_rfl
theorem tZ12 : tZ Try.prog 12 = some [.int .u64 0] := by kernel_rfl
theorem tU12 : Try.prog.underlying 12 = some (.int .u64) := by kernel_rfl
theorem tS13 : tS Try.prog 13 = some 2 := by kernel_rfl
theorem tA13 : tA Try.prog 13 = some true := by kernel_rfl
theorem tB13 : tB Try.prog 13 = some 24 := by kernel_rfl
theorem tZ13 : tZ Try.prog 13 = some [.string ⟨#[]⟩, .int .u64 0] := by kernel_rfl
theorem tF13_0 : tF Try.prog 13 0 = some (0, 9) := by kernel_rfl
theorem tF13_1 : tF Try.prog 13 1 = some (1, 12) := by kernel_rfl
theorem tP13 : tP Try.prog 13 = some [(0, 1), (1, 1)] := by kernel_rfl
theorem tS15 : tS Try.prog 15 = some 1 := by kernel_rfl
theorem tA15 : tA Try.prog 15 = some false := by kernel_rfl
theorem tB15 : tB Try.prog 15 = some 8 := by kernel_rfl
theorem tZ15 : tZ Try.prog 15 = some [.pointer none] := by kernel_rfl
theorem tS16 : tS Try.prog 16 = some 1 := by kernel_rfl
theorem tA16 : tA Try.prog 16 = some false := by kernel_rfl
theorem tB16 : tB Try.prog 16 = some 8 := by kernel_rfl
theorem tZ16 : tZ Try.prog 16 = some [.pointer none] := by kernel_rfl
theorem tS17 : tS Try.prog 17 = some 1 := by kernel_rfl
theorem tA17 : tA Try.prog 17 = some false := by kernel_rfl
theorem tB17 : tB Try.prog 17 = some 8 := by kernel_rfl
theorem tZ17 : tZ Try.prog 17 = some [.pointer none] := by kernel_rfl
theorem tS18 : tS Try.prog 18 = some 1 := by kernel_rfl
theorem tA18 : tA Try.prog 18 = some true := by kernel_rfl
theorem tB18 : tB Try.prog 18 = some 8 := by kernel_rfl
theorem tZ18 : tZ Try.prog 18 = some [.pointer none] := by kernel_rfl
theorem tF18_0 : tF Try.prog 18 0 = some (0, 17) := by kernel_rfl
theorem tP18 : tP Try.prog 18 = some [(0, 1)] := by kernel_rfl
theorem tS19 : tS Try.prog 19 = some 1 := by kernel_rfl
theorem tA19 : tA Try.prog 19 = some true := by kernel_rfl
theorem tB19 : tB Try.prog 19 = some 8 := by kernel_rfl
theorem tZ19 : tZ Try.prog 19 = some [.pointer none] := by kernel_rfl
theorem tF19_0 : tF Try.prog 19 0 = some (0, 17) := by kernel_rfl
theorem tP19 : tP Try.prog 19 = some [(0, 1)] := by kernel_rfl
theorem tS21 : tS Try.prog 21 = some 1 := by kernel_rfl
theorem tA21 : tA Try.prog 21 = some false := by kernel_rfl
theorem tB21 : tB Try.prog 21 = some 4 := by kernel_rfl
theorem tZ21 : tZ Try.prog 21 = some [.int .i32 0] := by kernel_rfl
theorem tU21 : Try.prog.underlying 21 = some (.int .i32) := by kernel_rfl
theorem tS22 : tS Try.prog 22 = some 1 := by kernel_rfl
theorem tA22 : tA Try.prog 22 = some false := by kernel_rfl
theorem tB22 : tB Try.prog 22 = some 24 := by kernel_rfl
theorem tZ22 : tZ Try.prog 22 = some [.slice none 0 0] := by kernel_rfl
theorem tE22 : tE Try.prog 22 = some 27 := by kernel_rfl
theorem tR22 : tR Try.prog 22 = none := by kernel_rfl
theorem tU22 : Try.prog.underlying 22 = some (.slice 27) := by kernel_rfl
theorem tS23 : tS Try.prog 23 = some 1 := by kernel_rfl
theorem tA23 : tA Try.prog 23 = some false := by kernel_rfl
theorem tB23 : tB Try.prog 23 = some 24 := by kernel_rfl
theorem tZ23 : tZ Try.prog 23 = some [.slice none 0 0] := by kernel_rfl
theorem tE23 : tE Try.prog 23 = some 36 := by kernel_rfl
theorem tR23 : tR Try.prog 23 = none := by kernel_rfl
theorem tU23 : Try.prog.underlying 23 = some (.slice 36) := by kernel_rfl
theorem tS24 : tS Try.prog 24 = some 1 := by kernel_rfl
theorem tA24 : tA Try.prog 24 = some false := by kernel_rfl
theorem tB24 : tB Try.prog 24 = some 8 := by kernel_rfl
theorem tZ24 : tZ Try.prog 24 = some [.nilFunc] := by kernel_rfl
theorem tS25 : tS Try.prog 25 = some 1 := by kernel_rfl
theorem tA25 : tA Try.prog 25 = some false := by kernel_rfl
theorem tB25 : tB Try.prog 25 = some 8 := by kernel_rfl
theorem tZ25 : tZ Try.prog 25 = some [.int .u64 0] := by kernel_rfl
theorem tU25 : Try.prog.underlying 25 = some (.int .u64) := by kernel_rfl
theorem tS26 : tS Try.prog 26 = some 3 := by kernel_rfl
theorem tA26 : tA Try.prog 26 = some true := by kernel_rfl
theorem tB26 : tB Try.prog 26 = some 24 := by kernel_rfl
theorem tZ26 : tZ Try.prog 26 = some [.int .u64 0, .int .i64 0, .int .i64 0] := by kernel_rfl
theorem tF26_0 : tF Try.prog 26 0 = some (0, 25) := by kernel_rfl
theorem tF26_1 : tF Try.prog 26 1 = some (1, 3) := by kernel_rfl
theorem tF26_2 : tF Try.prog 26 2 = some (2, 3) := by kernel_rfl
theorem tP26 : tP Try.prog 26 = some [(0, 1), (1, 1), (2, 1)] := by kernel_rfl
theorem tS27 : tS Try.prog 27 = some 3 := by kernel_rfl
theorem tA27 : tA Try.prog 27 = some true := by kernel_rfl
theorem tB27 : tB Try.prog 27 = some 24 := by kernel_rfl
theorem tZ27 : tZ Try.prog 27 = some [.int .u64 0, .int .i64 0, .int .i64 0] := by kernel_rfl
theorem tF27_0 : tF Try.prog 27 0 = some (0, 25) := by kernel_rfl
theorem tF27_1 : tF Try.prog 27 1 = some (1, 3) := by kernel_rfl
theorem tF27_2 : tF Try.prog 27 2 = some (2, 3) := by kernel_rfl
theorem tP27 : tP Try.prog 27 = some [(0, 1), (1, 1), (2, 1)] := by kernel_rfl
theorem tS28 : tS Try.prog 28 = some 1 := by kernel_rfl
theorem tA28 : tA Try.prog 28 = some false := by kernel_rfl
theorem tB28 : tB Try.prog 28 = some 24 := by kernel_rfl
theorem tZ28 : tZ Try.prog 28 = some [.slice none 0 0] := by kernel_rfl
theorem tE28 : tE Try.prog 28 = some 61 := by kernel_rfl
theorem tR28 : tR Try.prog 28 = none := by kernel_rfl
theorem tU28 : Try.prog.underlying 28 = some (.slice 61) := by kernel_rfl
theorem tS29 : tS Try.prog 29 = some 6 := by kernel_rfl
theorem tA29 : tA Try.prog 29 = some true := by kernel_rfl
theorem tB29 : tB Try.prog 29 = some 64 := by kernel_rfl
theorem tZ29 : tZ Try.prog 29 = some [.int .u64 0, .int .u64 0, .int .i64 0, .int .i64 0, .int .i64 0, .slice none 0 0] := by kernel_rfl
theorem tF29_0 : tF Try.prog 29 0 = some (0, 25) := by kernel_rfl
theorem tF29_1 : tF Try.prog 29 1 = some (1, 25) := by kernel_rfl
theorem tF29_2 : tF Try.prog 29 2 = some (2, 3) := by kernel_rfl
theorem tF29_3 : tF Try.prog 29 3 = some (3, 3) := by kernel_rfl
theorem tF29_4 : tF Try.prog 29 4 = some (4, 2) := by kernel_rfl
theorem tF29_5 : tF Try.prog 29 5 = some (5, 28) := by kernel_rfl
theorem tP29 : tP Try.prog 29 = some [(0, 1), (1, 1), (2, 1), (3, 1), (4, 1), (5, 1)] := by kernel_rfl
theorem tS30 : tS Try.prog 30 = some 6 := by kernel_rfl
theorem tA30 : tA Try.prog 30 = some true := by kernel_rfl
theorem tB30 : tB Try.prog 30 = some 64 := by kernel_rfl
theorem tZ30 : tZ Try.prog 30 = some [.int .u64 0, .int .u64 0, .int .i64 0, .int .i64 0, .int .i64 0, .slice none 0 0] := by kernel_rfl
theorem tF30_0 : tF Try.prog 30 0 = some (0, 25) := by kernel_rfl
theorem tF30_1 : tF Try.prog 30 1 = some (1, 25) := by kernel_rfl
theorem tF30_2 : tF Try.prog 30 2 = some (2, 3) := by kernel_rfl
theorem tF30_3 : tF Try.prog 30 3 = some (3, 3) := by kernel_rfl
theorem tF30_4 : tF Try.prog 30 4 = some (4, 2) := by kernel_rfl
theorem tF30_5 : tF Try.prog 30 5 = some (5, 28) := by kernel_rfl
theorem tP30 : tP Try.prog 30 = some [(0, 1), (1, 1), (2, 1), (3, 1), (4, 1), (5, 1)] := by kernel_rfl
theorem tS31 : tS Try.prog 31 = some 1 := by kernel_rfl
theorem tA31 : tA Try.prog 31 = some false := by kernel_rfl
theorem tB31 : tB Try.prog 31 = some 8 := by kernel_rfl
theorem tZ31 : tZ Try.prog 31 = some [.int .i64 0] := by kernel_rfl
theorem tU31 : Try.prog.underlying 31 = some (.int .i64) := by kernel_rfl
theorem tS33 : tS Try.prog 33 = some 1 := by kernel_rfl
theorem tA33 : tA Try.prog 33 = some false := by kernel_rfl
theorem tB33 : tB Try.prog 33 = some 8 := by kernel_rfl
theorem tZ33 : tZ Try.prog 33 = some [.nilFunc] := by kernel_rfl
theorem tS34 : tS Try.prog 34 = some 1 := by kernel_rfl
theorem tA34 : tA Try.prog 34 = some false := by kernel_rfl
theorem tB34 : tB Try.prog 34 = some 8 := by kernel_rfl
theorem tZ34 : tZ Try.prog 34 = some [.nilFunc] := by kernel_rfl
theorem tS35 : tS Try.prog 35 = some 1 := by kernel_rfl
theorem tA35 : tA Try.prog 35 = some false := by kernel_rfl
theorem tB35 : tB Try.prog 35 = some 8 := by kernel_rfl
theorem tZ35 : tZ Try.prog 35 = some [.nilFunc] := by kernel_rfl
theorem tS36 : tS Try.prog 36 = some 2 := by kernel_rfl
theorem tA36 : tA Try.prog 36 = some true := by kernel_rfl
theorem tB36 : tB Try.prog 36 = some 16 := by kernel_rfl
theorem tZ36 : tZ Try.prog 36 = some [.int .u64 0, .int .u64 0] := by kernel_rfl
theorem tR36 : tR Try.prog 36 = some (2, 25) := by kernel_rfl
theorem tE36 : tE Try.prog 36 = none := by kernel_rfl
theorem tP36 : tP Try.prog 36 = none := by kernel_rfl
theorem tS38 : tS Try.prog 38 = some 1 := by kernel_rfl
theorem tA38 : tA Try.prog 38 = some false := by kernel_rfl
theorem tB38 : tB Try.prog 38 = some 8 := by kernel_rfl
theorem tZ38 : tZ Try.prog 38 = some [.nilFunc] := by kernel_rfl
theorem tS39 : tS Try.prog 39 = some 1 := by kernel_rfl
theorem tA39 : tA Try.prog 39 = some false := by kernel_rfl
theorem tB39 : tB Try.prog 39 = some 8 := by kernel_rfl
theorem tZ39 : tZ Try.prog 39 = some [.nilFunc] := by kernel_rfl
theorem tS40 : tS Try.prog 40 = some 1 := by kernel_rfl
theorem tA40 : tA Try.prog 40 = some false := by kernel_rfl
theorem tB40 : tB Try.prog 40 = some 8 := by kernel_rfl
theorem tZ40 : tZ Try.prog 40 = some [.nilFunc] := by kernel_rfl
theorem tS41 : tS Try.prog 41 = some 1 := by kernel_rfl
theorem tA41 : tA Try.prog 41 = some false := by kernel_rfl
theorem tB41 : tB Try.prog 41 = some 24 := by kernel_rfl
theorem tZ41 : tZ Try.prog 41 = some [.slice none 0 0] := by kernel_rfl
theorem tE41 : tE Try.prog 41 = some 25 := by kernel_rfl
theorem tR41 : tR Try.prog 41 = none := by kernel_rfl
theorem tU41 : Try.prog.underlying 41 = some (.slice 25) := by kernel_rfl
theorem tS42 : tS Try.prog 42 = some 1 := by kernel_rfl
theorem tA42 : tA Try.prog 42 = some false := by kernel_rfl
theorem tB42 : tB Try.prog 42 = some 8 := by kernel_rfl
theorem tZ42 : tZ Try.prog 42 = some [.nilFunc] := by kernel_rfl
theorem tS43 : tS Try.prog 43 = some 1 := by kernel_rfl
theorem tA43 : tA Try.prog 43 = some false := by kernel_rfl
theorem tB43 : tB Try.prog 43 = some 24 := by kernel_rfl
theorem tZ43 : tZ Try.prog 43 = some [.slice none 0 0] := by kernel_rfl
theorem tE43 : tE Try.prog 43 = some 49 := by kernel_rfl
theorem tR43 : tR Try.prog 43 = none := by kernel_rfl
theorem tU43 : Try.prog.underlying 43 = some (.slice 49) := by kernel_rfl
theorem tS44 : tS Try.prog 44 = some 1 := by kernel_rfl
theorem tA44 : tA Try.prog 44 = some false := by kernel_rfl
theorem tB44 : tB Try.prog 44 = some 8 := by kernel_rfl
theorem tZ44 : tZ Try.prog 44 = some [.nilFunc] := by kernel_rfl
theorem tS45 : tS Try.prog 45 = some 1 := by kernel_rfl
theorem tA45 : tA Try.prog 45 = some false := by kernel_rfl
theorem tB45 : tB Try.prog 45 = some 24 := by kernel_rfl
theorem tZ45 : tZ Try.prog 45 = some [.slice none 0 0] := by kernel_rfl
theorem tE45 : tE Try.prog 45 = some 5 := by kernel_rfl
theorem tR45 : tR Try.prog 45 = none := by kernel_rfl
theorem tU45 : Try.prog.underlying 45 = some (.slice 5) := by kernel_rfl
theorem tS46 : tS Try.prog 46 = some 2 := by kernel_rfl
theorem tA46 : tA Try.prog 46 = some true := by kernel_rfl
theorem tB46 : tB Try.prog 46 = some 32 := by kernel_rfl
theorem tZ46 : tZ Try.prog 46 = some [.int .i64 0, .slice none 0 0] := by kernel_rfl
theorem tF46_0 : tF Try.prog 46 0 = some (0, 3) := by kernel_rfl
theorem tF46_1 : tF Try.prog 46 1 = some (1, 45) := by kernel_rfl
theorem tP46 : tP Try.prog 46 = some [(0, 1), (1, 1)] := by kernel_rfl
theorem tS47 : tS Try.prog 47 = some 2 := by kernel_rfl
theorem tA47 : tA Try.prog 47 = some true := by kernel_rfl
theorem tB47 : tB Try.prog 47 = some 32 := by kernel_rfl
theorem tZ47 : tZ Try.prog 47 = some [.int .i64 0, .slice none 0 0] := by kernel_rfl
theorem tF47_0 : tF Try.prog 47 0 = some (0, 3) := by kernel_rfl
theorem tF47_1 : tF Try.prog 47 1 = some (1, 45) := by kernel_rfl
theorem tP47 : tP Try.prog 47 = some [(0, 1), (1, 1)] := by kernel_rfl
theorem tS48 : tS Try.prog 48 = some 8 := by kernel_rfl
theorem tA48 : tA Try.prog 48 = some true := by kernel_rfl
theorem tB48 : tB Try.prog 48 = some 80 := by kernel_rfl
theorem tZ48 : tZ Try.prog 48 = some [.int .i64 0, .int .i64 0, .int .i64 0, .bool false, .int .i64 0, .int .i64 0, .int .i64 0, .slice none 0 0] := by kernel_rfl
theorem tF48_0 : tF Try.prog 48 0 = some (0, 3) := by kernel_rfl
theorem tF48_1 : tF Try.prog 48 1 = some (1, 3) := by kernel_rfl
theorem tF48_2 : tF Try.prog 48 2 = some (2, 2) := by kernel_rfl
theorem tF48_3 : tF Try.prog 48 3 = some (3, 4) := by kernel_rfl
theorem tF48_4 : tF Try.prog 48 4 = some (4, 3) := by kernel_rfl
theorem tF48_5 : tF Try.prog 48 5 = some (5, 3) := by kernel_rfl
theorem tF48_6 : tF Try.prog 48 6 = some (6, 47) := by kernel_rfl
theorem tP48 : tP Try.prog 48 = some [(0, 1), (1, 1), (2, 1), (3, 1), (4, 1), (5, 1), (6, 2)] := by kernel_rfl
theorem tS49 : tS Try.prog 49 = some 8 := by kernel_rfl
theorem tA49 : tA Try.prog 49 = some true := by kernel_rfl
theorem tB49 : tB Try.prog 49 = some 80 := by kernel_rfl
theorem tZ49 : tZ Try.prog 49 = some [.int .i64 0, .int .i64 0, .int .i64 0, .bool false, .int .i64 0, .int .i64 0, .int .i64 0, .slice none 0 0] := by kernel_rfl
theorem tF49_0 : tF Try.prog 49 0 = some (0, 3) := by kernel_rfl
theorem tF49_1 : tF Try.prog 49 1 = some (1, 3) := by kernel_rfl
theorem tF49_2 : tF Try.prog 49 2 = some (2, 2) := by kernel_rfl
theorem tF49_3 : tF Try.prog 49 3 = some (3, 4) := by kernel_rfl
theorem tF49_4 : tF Try.prog 49 4 = some (4, 3) := by kernel_rfl
theorem tF49_5 : tF Try.prog 49 5 = some (5, 3) := by kernel_rfl
theorem tF49_6 : tF Try.prog 49 6 = some (6, 47) := by kernel_rfl
theorem tP49 : tP Try.prog 49 = some [(0, 1), (1, 1), (2, 1), (3, 1), (4, 1), (5, 1), (6, 2)] := by kernel_rfl
theorem tS50 : tS Try.prog 50 = some 1 := by kernel_rfl
theorem tA50 : tA Try.prog 50 = some false := by kernel_rfl
theorem tB50 : tB Try.prog 50 = some 24 := by kernel_rfl
theorem tZ50 : tZ Try.prog 50 = some [.slice none 0 0] := by kernel_rfl
theorem tE50 : tE Try.prog 50 = some 47 := by kernel_rfl
theorem tR50 : tR Try.prog 50 = none := by kernel_rfl
theorem tU50 : Try.prog.underlying 50 = some (.slice 47) := by kernel_rfl
theorem tS51 : tS Try.prog 51 = some 11 := by kernel_rfl
theorem tA51 : tA Try.prog 51 = some true := by kernel_rfl
theorem tB51 : tB Try.prog 51 = some 136 := by kernel_rfl
theorem tZ51 : tZ Try.prog 51 = some [.int .u64 0, .int .u64 0, .int .i64 0, .int .i64 0, .int .i64 0, .slice none 0 0, .int .u64 0, .bool false, .slice none 0 0, .slice none 0 0, .int .i64 0] := by kernel_rfl
theorem tF51_0 : tF Try.prog 51 0 = some (0, 30) := by kernel_rfl
theorem tF51_1 : tF Try.prog 51 1 = some (6, 25) := by kernel_rfl
theorem tF51_2 : tF Try.prog 51 2 = some (7, 4) := by kernel_rfl
theorem tF51_3 : tF Try.prog 51 3 = some (8, 50) := by kernel_rfl
theorem tF51_4 : tF Try.prog 51 4 = some (9, 41) := by kernel_rfl
theorem tF51_5 : tF Try.prog 51 5 = some (10, 31) := by kernel_rfl
theorem tP51 : tP Try.prog 51 = some [(0, 6), (6, 1), (7, 1), (8, 1), (9, 1), (10, 1)] := by kernel_rfl
theorem tS52 : tS Try.prog 52 = some 11 := by kernel_rfl
theorem tA52 : tA Try.prog 52 = some true := by kernel_rfl
theorem tB52 : tB Try.prog 52 = some 136 := by kernel_rfl
theorem tZ52 : tZ Try.prog 52 = some [.int .u64 0, .int .u64 0, .int .i64 0, .int .i64 0, .int .i64 0, .slice none 0 0, .int .u64 0, .bool false, .slice none 0 0, .slice none 0 0, .int .i64 0] := by kernel_rfl
theorem tF52_0 : tF Try.prog 52 0 = some (0, 30) := by kernel_rfl
theorem tF52_1 : tF Try.prog 52 1 = some (6, 25) := by kernel_rfl
theorem tF52_2 : tF Try.prog 52 2 = some (7, 4) := by kernel_rfl
theorem tF52_3 : tF Try.prog 52 3 = some (8, 50) := by kernel_rfl
theorem tF52_4 : tF Try.prog 52 4 = some (9, 41) := by kernel_rfl
theorem tF52_5 : tF Try.prog 52 5 = some (10, 31) := by kernel_rfl
theorem tP52 : tP Try.prog 52 = some [(0, 6), (6, 1), (7, 1), (8, 1), (9, 1), (10, 1)] := by kernel_rfl
theorem tS53 : tS Try.prog 53 = some 1 := by kernel_rfl
theorem tA53 : tA Try.prog 53 = some false := by kernel_rfl
theorem tB53 : tB Try.prog 53 = some 8 := by kernel_rfl
theorem tZ53 : tZ Try.prog 53 = some [.nilFunc] := by kernel_rfl
theorem tS54 : tS Try.prog 54 = some 1 := by kernel_rfl
theorem tA54 : tA Try.prog 54 = some false := by kernel_rfl
theorem tB54 : tB Try.prog 54 = some 8 := by kernel_rfl
theorem tZ54 : tZ Try.prog 54 = some [.nilFunc] := by kernel_rfl
theorem tS55 : tS Try.prog 55 = some 1 := by kernel_rfl
theorem tA55 : tA Try.prog 55 = some false := by kernel_rfl
theorem tB55 : tB Try.prog 55 = some 8 := by kernel_rfl
theorem tZ55 : tZ Try.prog 55 = some [.nilFunc] := by kernel_rfl
theorem tS56 : tS Try.prog 56 = some 1 := by kernel_rfl
theorem tA56 : tA Try.prog 56 = some false := by kernel_rfl
theorem tB56 : tB Try.prog 56 = some 8 := by kernel_rfl
theorem tZ56 : tZ Try.prog 56 = some [.nilFunc] := by kernel_rfl
theorem tS57 : tS Try.prog 57 = some 1 := by kernel_rfl
theorem tA57 : tA Try.prog 57 = some false := by kernel_rfl
theorem tB57 : tB Try.prog 57 = some 8 := by kernel_rfl
theorem tZ57 : tZ Try.prog 57 = some [.nilFunc] := by kernel_rfl
theorem tS58 : tS Try.prog 58 = some 1 := by kernel_rfl
theorem tA58 : tA Try.prog 58 = some false := by kernel_rfl
theorem tB58 : tB Try.prog 58 = some 8 := by kernel_rfl
theorem tZ58 : tZ Try.prog 58 = some [.nilFunc] := by kernel_rfl
theorem tS59 : tS Try.prog 59 = some 1 := by kernel_rfl
theorem tA59 : tA Try.prog 59 = some false := by kernel_rfl
theorem tB59 : tB Try.prog 59 = some 8 := by kernel_rfl
theorem tZ59 : tZ Try.prog 59 = some [.map none] := by kernel_rfl
theorem tU59 : Try.prog.underlying 59 = some (.map 25 4) := by kernel_rfl
theorem tS60 : tS Try.prog 60 = some 4 := by kernel_rfl
theorem tA60 : tA Try.prog 60 = some true := by kernel_rfl
theorem tB60 : tB Try.prog 60 = some 48 := by kernel_rfl
theorem tZ60 : tZ Try.prog 60 = some [.int .u64 0, .int .i64 0, .bool false, .slice none 0 0] := by kernel_rfl
theorem tF60_0 : tF Try.prog 60 0 = some (0, 25) := by kernel_rfl
theorem tF60_1 : tF Try.prog 60 1 = some (1, 2) := by kernel_rfl
theorem tF60_2 : tF Try.prog 60 2 = some (2, 4) := by kernel_rfl
theorem tF60_3 : tF Try.prog 60 3 = some (3, 50) := by kernel_rfl
theorem tP60 : tP Try.prog 60 = some [(0, 1), (1, 1), (2, 1), (3, 1)] := by kernel_rfl
theorem tS61 : tS Try.prog 61 = some 4 := by kernel_rfl
theorem tA61 : tA Try.prog 61 = some true := by kernel_rfl
theorem tB61 : tB Try.prog 61 = some 48 := by kernel_rfl
theorem tZ61 : tZ Try.prog 61 = some [.int .u64 0, .int .i64 0, .bool false, .slice none 0 0] := by kernel_rfl
theorem tF61_0 : tF Try.prog 61 0 = some (0, 25) := by kernel_rfl
theorem tF61_1 : tF Try.prog 61 1 = some (1, 2) := by kernel_rfl
theorem tF61_2 : tF Try.prog 61 2 = some (2, 4) := by kernel_rfl
theorem tF61_3 : tF Try.prog 61 3 = some (3, 50) := by kernel_rfl
theorem tP61 : tP Try.prog 61 = some [(0, 1), (1, 1), (2, 1), (3, 1)] := by kernel_rfl
theorem tS62 : tS Try.prog 62 = some 1 := by kernel_rfl
theorem tA62 : tA Try.prog 62 = some false := by kernel_rfl
theorem tB62 : tB Try.prog 62 = some 8 := by kernel_rfl
theorem tZ62 : tZ Try.prog 62 = some [.nilFunc] := by kernel_rfl
theorem tS63 : tS Try.prog 63 = some 1 := by kernel_rfl
theorem tA63 : tA Try.prog 63 = some false := by kernel_rfl
theorem tB63 : tB Try.prog 63 = some 8 := by kernel_rfl
theorem tZ63 : tZ Try.prog 63 = some [.int .u64 0] := by kernel_rfl
theorem tU63 : Try.prog.underlying 63 = some (.int .u64) := by kernel_rfl
theorem tS64 : tS Try.prog 64 = some 1 := by kernel_rfl
theorem tA64 : tA Try.prog 64 = some false := by kernel_rfl
theorem tB64 : tB Try.prog 64 = some 24 := by kernel_rfl
theorem tZ64 : tZ Try.prog 64 = some [.slice none 0 0] := by kernel_rfl
theorem tE64 : tE Try.prog 64 = some 30 := by kernel_rfl
theorem tR64 : tR Try.prog 64 = none := by kernel_rfl
theorem tU64 : Try.prog.underlying 64 = some (.slice 30) := by kernel_rfl
theorem tS65 : tS Try.prog 65 = some 1 := by kernel_rfl
theorem tA65 : tA Try.prog 65 = some false := by kernel_rfl
theorem tB65 : tB Try.prog 65 = some 24 := by kernel_rfl
theorem tZ65 : tZ Try.prog 65 = some [.slice none 0 0] := by kernel_rfl
theorem tE65 : tE Try.prog 65 = some 3 := by kernel_rfl
theorem tR65 : tR Try.prog 65 = none := by kernel_rfl
theorem tU65 : Try.prog.underlying 65 = some (.slice 3) := by kernel_rfl
theorem tS66 : tS Try.prog 66 = some 1 := by kernel_rfl
theorem tA66 : tA Try.prog 66 = some false := by kernel_rfl
theorem tB66 : tB Try.prog 66 = some 8 := by kernel_rfl
theorem tZ66 : tZ Try.prog 66 = some [.nilFunc] := by kernel_rfl
theorem tS67 : tS Try.prog 67 = some 1 := by kernel_rfl
theorem tA67 : tA Try.prog 67 = some false := by kernel_rfl
theorem tB67 : tB Try.prog 67 = some 8 := by kernel_rfl
theorem tZ67 : tZ Try.prog 67 = some [.nilFunc] := by kernel_rfl
theorem tS68 : tS Try.prog 68 = some 1 := by kernel_rfl
theorem tA68 : tA Try.prog 68 = some false := by kernel_rfl
theorem tB68 : tB Try.prog 68 = some 8 := by kernel_rfl
theorem tZ68 : tZ Try.prog 68 = some [.map none] := by kernel_rfl
theorem tU68 : Try.prog.underlying 68 = some (.map 25 69) := by kernel_rfl
theorem tS69 : tS Try.prog 69 = some 1 := by kernel_rfl
theorem tA69 : tA Try.prog 69 = some false := by kernel_rfl
theorem tB69 : tB Try.prog 69 = some 8 := by kernel_rfl
theorem tZ69 : tZ Try.prog 69 = some [.map none] := by kernel_rfl
theorem tU69 : Try.prog.underlying 69 = some (.map 3 45) := by kernel_rfl
theorem tS70 : tS Try.prog 70 = some 1 := by kernel_rfl
theorem tA70 : tA Try.prog 70 = some false := by kernel_rfl
theorem tB70 : tB Try.prog 70 = some 8 := by kernel_rfl
theorem tZ70 : tZ Try.prog 70 = some [.nilFunc] := by kernel_rfl
theorem tS71 : tS Try.prog 71 = some 1 := by kernel_rfl
theorem tA71 : tA Try.prog 71 = some false := by kernel_rfl
theorem tB71 : tB Try.prog 71 = some 8 := by kernel_rfl
theorem tZ71 : tZ Try.prog 71 = some [.nilFunc] := by kernel_rfl
theorem tS73 : tS Try.prog 73 = some 1 := by kernel_rfl
theorem tA73 : tA Try.prog 73 = some false := by kernel_rfl
theorem tB73 : tB Try.prog 73 = some 8 := by kernel_rfl
theorem tZ73 : tZ Try.prog 73 = some [.nilFunc] := by kernel_rfl
theorem tS75 : tS Try.prog 75 = some 1 := by kernel_rfl
theorem tA75 : tA Try.prog 75 = some false := by kernel_rfl
theorem tB75 : tB Try.prog 75 = some 8 := by kernel_rfl
theorem tZ75 : tZ Try.prog 75 = some [.nilFunc] := by kernel_rfl
theorem tS77 : tS Try.prog 77 = some 1 := by kernel_rfl
theorem tA77 : tA Try.prog 77 = some false := by kernel_rfl
theorem tB77 : tB Try.prog 77 = some 8 := by kernel_rfl
theorem tZ77 : tZ Try.prog 77 = some [.nilFunc] := by kernel_rfl
theorem tS78 : tS Try.prog 78 = some 1 := by kernel_rfl
theorem tA78 : tA Try.prog 78 = some false := by kernel_rfl
theorem tB78 : tB Try.prog 78 = some 8 := by kernel_rfl
theorem tZ78 : tZ Try.prog 78 = some [.nilFunc] := by kernel_rfl
theorem tS79 : tS Try.prog 79 = some 1 := by kernel_rfl
theorem tA79 : tA Try.prog 79 = some false := by kernel_rfl
theorem tB79 : tB Try.prog 79 = some 8 := by kernel_rfl
theorem tZ79 : tZ Try.prog 79 = some [.nilFunc] := by kernel_rfl
theorem tS80 : tS Try.prog 80 = some 1 := by kernel_rfl
theorem tA80 : tA Try.prog 80 = some false := by kernel_rfl
theorem tB80 : tB Try.prog 80 = some 8 := by kernel_rfl
theorem tZ80 : tZ Try.prog 80 = some [.nilFunc] := by kernel_rfl
theorem tS81 : tS Try.prog 81 = some 1 := by kernel_rfl
theorem tA81 : tA Try.prog 81 = some false := by kernel_rfl
theorem tB81 : tB Try.prog 81 = some 8 := by kernel_rfl
theorem tZ81 : tZ Try.prog 81 = some [.nilFunc] := by kernel_rfl
theorem tS83 : tS Try.prog 83 = some 1 := by kernel_rfl
theorem tA83 : tA Try.prog 83 = some false := by kernel_rfl
theorem tB83 : tB Try.prog 83 = some 8 := by kernel_rfl
theorem tZ83 : tZ Try.prog 83 = some [.nilFunc] := by kernel_rfl
theorem tS84 : tS Try.prog 84 = some 1 := by kernel_rfl
theorem tA84 : tA Try.prog 84 = some false := by kernel_rfl
theorem tB84 : tB Try.prog 84 = some 8 := by kernel_rfl
theorem tZ84 : tZ Try.prog 84 = some [.nilFunc] := by kernel_rfl
theorem tS85 : tS Try.prog 85 = some 1 := by kernel_rfl
theorem tA85 : tA Try.prog 85 = some false := by kernel_rfl
theorem tB85 : tB Try.prog 85 = some 8 := by kernel_rfl
theorem tZ85 : tZ Try.prog 85 = some [.nilFunc] := by kernel_rfl
theorem tS86 : tS Try.prog 86 = some 1 := by kernel_rfl
theorem tA86 : tA Try.prog 86 = some false := by kernel_rfl
theorem tB86 : tB Try.prog 86 = some 8 := by kernel_rfl
theorem tZ86 : tZ Try.prog 86 = some [.nilFunc] := by kernel_rfl
theorem tS87 : tS Try.prog 87 = some 1 := by kernel_rfl
theorem tA87 : tA Try.prog 87 = some false := by kernel_rfl
theorem tB87 : tB Try.prog 87 = some 8 := by kernel_rfl
theorem tZ87 : tZ Try.prog 87 = some [.nilFunc] := by kernel_rfl
theorem tS88 : tS Try.prog 88 = some 1 := by kernel_rfl
theorem tA88 : tA Try.prog 88 = some false := by kernel_rfl
theorem tB88 : tB Try.prog 88 = some 8 := by kernel_rfl
theorem tZ88 : tZ Try.prog 88 = some [.nilFunc] := by kernel_rfl
theorem tS89 : tS Try.prog 89 = some 1 := by kernel_rfl
theorem tA89 : tA Try.prog 89 = some false := by kernel_rfl
theorem tB89 : tB Try.prog 89 = some 8 := by kernel_rfl
theorem tZ89 : tZ Try.prog 89 = some [.nilFunc] := by kernel_rfl
theorem tS90 : tS Try.prog 90 = some 1 := by kernel_rfl
theorem tA90 : tA Try.prog 90 = some false := by kernel_rfl
theorem tB90 : tB Try.prog 90 = some 8 := by kernel_rfl
theorem tZ90 : tZ Try.prog 90 = some [.nilFunc] := by kernel_rfl
theorem tS91 : tS Try.prog 91 = some 1 := by kernel_rfl
theorem tA91 : tA Try.prog 91 = some false := by kernel_rfl
theorem tB91 : tB Try.prog 91 = some 8 := by kernel_rfl
theorem tZ91 : tZ Try.prog 91 = some [.nilFunc] := by kernel_rfl
theorem tS92 : tS Try.prog 92 = some 1 := by kernel_rfl
theorem tA92 : tA Try.prog 92 = some false := by kernel_rfl
theorem tB92 : tB Try.prog 92 = some 8 := by kernel_rfl
theorem tZ92 : tZ Try.prog 92 = some [.nilFunc] := by kernel_rfl
theorem tS93 : tS Try.prog 93 = some 1 := by kernel_rfl
theorem tA93 : tA Try.prog 93 = some false := by kernel_rfl
theorem tB93 : tB Try.prog 93 = some 8 := by kernel_rfl
theorem tZ93 : tZ Try.prog 93 = some [.nilFunc] := by kernel_rfl
theorem tS94 : tS Try.prog 94 = some 1 := by kernel_rfl
theorem tA94 : tA Try.prog 94 = some false := by kernel_rfl
theorem tB94 : tB Try.prog 94 = some 8 := by kernel_rfl
theorem tZ94 : tZ Try.prog 94 = some [.nilFunc] := by kernel_rfl
theorem tS95 : tS Try.prog 95 = some 1 := by kernel_rfl
theorem tA95 : tA Try.prog 95 = some false := by kernel_rfl
theorem tB95 : tB Try.prog 95 = some 8 := by kernel_rfl
theorem tZ95 : tZ Try.prog 95 = some [.pointer none] := by kernel_rfl
theorem tS96 : tS Try.prog 96 = some 1 := by kernel_rfl
theorem tA96 : tA Try.prog 96 = some false := by kernel_rfl
theorem tB96 : tB Try.prog 96 = some 8 := by kernel_rfl
theorem tZ96 : tZ Try.prog 96 = some [.nilFunc] := by kernel_rfl
theorem tS97 : tS Try.prog 97 = some 1 := by kernel_rfl
theorem tA97 : tA Try.prog 97 = some false := by kernel_rfl
theorem tB97 : tB Try.prog 97 = some 8 := by kernel_rfl
theorem tZ97 : tZ Try.prog 97 = some [.nilFunc] := by kernel_rfl
theorem tS98 : tS Try.prog 98 = some 1 := by kernel_rfl
theorem tA98 : tA Try.prog 98 = some false := by kernel_rfl
theorem tB98 : tB Try.prog 98 = some 8 := by kernel_rfl
theorem tZ98 : tZ Try.prog 98 = some [.nilFunc] := by kernel_rfl
theorem tS99 : tS Try.prog 99 = some 1 := by kernel_rfl
theorem tA99 : tA Try.prog 99 = some false := by kernel_rfl
theorem tB99 : tB Try.prog 99 = some 8 := by kernel_rfl
theorem tZ99 : tZ Try.prog 99 = some [.nilFunc] := by kernel_rfl
theorem tS101 : tS Try.prog 101 = some 1 := by kernel_rfl
theorem tA101 : tA Try.prog 101 = some false := by kernel_rfl
theorem tB101 : tB Try.prog 101 = some 8 := by kernel_rfl
theorem tZ101 : tZ Try.prog 101 = some [.nilFunc] := by kernel_rfl
theorem tS102 : tS Try.prog 102 = some 1 := by kernel_rfl
theorem tA102 : tA Try.prog 102 = some false := by kernel_rfl
theorem tB102 : tB Try.prog 102 = some 8 := by kernel_rfl
theorem tZ102 : tZ Try.prog 102 = some [.pointer none] := by kernel_rfl
theorem tS104 : tS Try.prog 104 = some 1 := by kernel_rfl
theorem tA104 : tA Try.prog 104 = some false := by kernel_rfl
theorem tB104 : tB Try.prog 104 = some 8 := by kernel_rfl
theorem tZ104 : tZ Try.prog 104 = some [.nilFunc] := by kernel_rfl
theorem tS105 : tS Try.prog 105 = some 1 := by kernel_rfl
theorem tA105 : tA Try.prog 105 = some false := by kernel_rfl
theorem tB105 : tB Try.prog 105 = some 8 := by kernel_rfl
theorem tZ105 : tZ Try.prog 105 = some [.nilFunc] := by kernel_rfl
theorem tS106 : tS Try.prog 106 = some 1 := by kernel_rfl
theorem tA106 : tA Try.prog 106 = some false := by kernel_rfl
theorem tB106 : tB Try.prog 106 = some 8 := by kernel_rfl
theorem tZ106 : tZ Try.prog 106 = some [.nilFunc] := by kernel_rfl
theorem tS107 : tS Try.prog 107 = some 1 := by kernel_rfl
theorem tA107 : tA Try.prog 107 = some false := by kernel_rfl
theorem tB107 : tB Try.prog 107 = some 8 := by kernel_rfl
theorem tZ107 : tZ Try.prog 107 = some [.nilFunc] := by kernel_rfl
theorem tS108 : tS Try.prog 108 = some 1 := by kernel_rfl
theorem tA108 : tA Try.prog 108 = some false := by kernel_rfl
theorem tB108 : tB Try.prog 108 = some 8 := by kernel_rfl
theorem tZ108 : tZ Try.prog 108 = some [.nilFunc] := by kernel_rfl
theorem tS109 : tS Try.prog 109 = some 1 := by kernel_rfl
theorem tA109 : tA Try.prog 109 = some false := by kernel_rfl
theorem tB109 : tB Try.prog 109 = some 8 := by kernel_rfl
theorem tZ109 : tZ Try.prog 109 = some [.nilFunc] := by kernel_rfl
theorem tS110 : tS Try.prog 110 = some 1 := by kernel_rfl
theorem tA110 : tA Try.prog 110 = some false := by kernel_rfl
theorem tB110 : tB Try.prog 110 = some 8 := by kernel_rfl
theorem tZ110 : tZ Try.prog 110 = some [.nilFunc] := by kernel_rfl
theorem tS111 : tS Try.prog 111 = some 1 := by kernel_rfl
theorem tA111 : tA Try.prog 111 = some false := by kernel_rfl
theorem tB111 : tB Try.prog 111 = some 8 := by kernel_rfl
theorem tZ111 : tZ Try.prog 111 = some [.nilFunc] := by kernel_rfl
theorem tS112 : tS Try.prog 112 = some 1 := by kernel_rfl
theorem tA112 : tA Try.prog 112 = some false := by kernel_rfl
theorem tB112 : tB Try.prog 112 = some 8 := by kernel_rfl
theorem tZ112 : tZ Try.prog 112 = some [.nilFunc] := by kernel_rfl
theorem tS113 : tS Try.prog 113 = some 1 := by kernel_rfl
theorem tA113 : tA Try.prog 113 = some false := by kernel_rfl
theorem tB113 : tB Try.prog 113 = some 8 := by kernel_rfl
theorem tZ113 : tZ Try.prog 113 = some [.nilFunc] := by kernel_rfl
theorem tS114 : tS Try.prog 114 = some 1 := by kernel_rfl
theorem tA114 : tA Try.prog 114 = some false := by kernel_rfl
theorem tB114 : tB Try.prog 114 = some 8 := by kernel_rfl
theorem tZ114 : tZ Try.prog 114 = some [.nilFunc] := by kernel_rfl
theorem tS115 : tS Try.prog 115 = some 1 := by kernel_rfl
theorem tA115 : tA Try.prog 115 = some false := by kernel_rfl
theorem tB115 : tB Try.prog 115 = some 8 := by kernel_rfl
theorem tZ115 : tZ Try.prog 115 = some [.nilFunc] := by kernel_rfl
theorem tS116 : tS Try.prog 116 = some 1 := by kernel_rfl
theorem tA116 : tA Try.prog 116 = some false := by kernel_rfl
theorem tB116 : tB Try.prog 116 = some 8 := by kernel_rfl
theorem tZ116 : tZ Try.prog 116 = some [.nilFunc] := by kernel_rfl
theorem tS117 : tS Try.prog 117 = some 1 := by kernel_rfl
theorem tA117 : tA Try.prog 117 = some false := by kernel_rfl
theorem tB117 : tB Try.prog 117 = some 8 := by kernel_rfl
theorem tZ117 : tZ Try.prog 117 = some [.nilFunc] := by kernel_rfl
theorem tS118 : tS Try.prog 118 = some 1 := by kernel_rfl
theorem tA118 : tA Try.prog 118 = some false := by kernel_rfl
theorem tB118 : tB Try.prog 118 = some 8 := by kernel_rfl
theorem tZ118 : tZ Try.prog 118 = some [.nilFunc] := by kernel_rfl
theorem tS119 : tS Try.prog 119 = some 1 := by kernel_rfl
theorem tA119 : tA Try.prog 119 = some false := by kernel_rfl
theorem tB119 : tB Try.prog 119 = some 8 := by kernel_rfl
theorem tZ119 : tZ Try.prog 119 = some [.nilFunc] := by kernel_rfl
theorem tS120 : tS Try.prog 120 = some 1 := by kernel_rfl
theorem tA120 : tA Try.prog 120 = some false := by kernel_rfl
theorem tB120 : tB Try.prog 120 = some 8 := by kernel_rfl
theorem tZ120 : tZ Try.prog 120 = some [.nilFunc] := by kernel_rfl
theorem tS121 : tS Try.prog 121 = some 1 := by kernel_rfl
theorem tA121 : tA Try.prog 121 = some false := by kernel_rfl
theorem tB121 : tB Try.prog 121 = some 8 := by kernel_rfl
theorem tZ121 : tZ Try.prog 121 = some [.nilFunc] := by kernel_rfl
theorem tS122 : tS Try.prog 122 = some 1 := by kernel_rfl
theorem tA122 : tA Try.prog 122 = some false := by kernel_rfl
theorem tB122 : tB Try.prog 122 = some 8 := by kernel_rfl
theorem tZ122 : tZ Try.prog 122 = some [.nilFunc] := by kernel_rfl
theorem tS123 : tS Try.prog 123 = some 1 := by kernel_rfl
theorem tA123 : tA Try.prog 123 = some false := by kernel_rfl
theorem tB123 : tB Try.prog 123 = some 8 := by kernel_rfl
theorem tZ123 : tZ Try.prog 123 = some [.nilFunc] := by kernel_rfl
theorem tS124 : tS Try.prog 124 = some 1 := by kernel_rfl
theorem tA124 : tA Try.prog 124 = some false := by kernel_rfl
theorem tB124 : tB Try.prog 124 = some 8 := by kernel_rfl
theorem tZ124 : tZ Try.prog 124 = some [.nilFunc] := by kernel_rfl
theorem tS125 : tS Try.prog 125 = some 4 := by kernel_rfl
theorem tA125 : tA Try.prog 125 = some true := by kernel_rfl
theorem tB125 : tB Try.prog 125 = some 40 := by kernel_rfl
theorem tZ125 : tZ Try.prog 125 = some [.pointer none, .pointer none, .pointer none, .string ⟨#[]⟩] := by kernel_rfl
theorem tF125_0 : tF Try.prog 125 0 = some (0, 17) := by kernel_rfl
theorem tF125_1 : tF Try.prog 125 1 = some (1, 17) := by kernel_rfl
theorem tF125_2 : tF Try.prog 125 2 = some (2, 17) := by kernel_rfl
theorem tF125_3 : tF Try.prog 125 3 = some (3, 9) := by kernel_rfl
theorem tP125 : tP Try.prog 125 = some [(0, 1), (1, 1), (2, 1), (3, 1)] := by kernel_rfl
theorem tS127 : tS Try.prog 127 = some 0 := by kernel_rfl
theorem tA127 : tA Try.prog 127 = some true := by kernel_rfl
theorem tB127 : tB Try.prog 127 = some 0 := by kernel_rfl
theorem tZ127 : tZ Try.prog 127 = some [] := by kernel_rfl
theorem tR127 : tR Try.prog 127 = some (0, 16) := by kernel_rfl
theorem tE127 : tE Try.prog 127 = none := by kernel_rfl
theorem tP127 : tP Try.prog 127 = none := by kernel_rfl
theorem tS128 : tS Try.prog 128 = some 0 := by kernel_rfl
theorem tA128 : tA Try.prog 128 = some true := by kernel_rfl
theorem tB128 : tB Try.prog 128 = some 0 := by kernel_rfl
theorem tZ128 : tZ Try.prog 128 = some [] := by kernel_rfl
theorem tF128_0 : tF Try.prog 128 0 = some (0, 127) := by kernel_rfl
theorem tP128 : tP Try.prog 128 = some [(0, 0)] := by kernel_rfl
theorem tS130 : tS Try.prog 130 = some 1 := by kernel_rfl
theorem tA130 : tA Try.prog 130 = some false := by kernel_rfl
theorem tB130 : tB Try.prog 130 = some 8 := by kernel_rfl
theorem tZ130 : tZ Try.prog 130 = some [.nilFunc] := by kernel_rfl
theorem tS131 : tS Try.prog 131 = some 1 := by kernel_rfl
theorem tA131 : tA Try.prog 131 = some false := by kernel_rfl
theorem tB131 : tB Try.prog 131 = some 4 := by kernel_rfl
theorem tZ131 : tZ Try.prog 131 = some [.int .u32 0] := by kernel_rfl
theorem tU131 : Try.prog.underlying 131 = some (.int .u32) := by kernel_rfl
theorem tS132 : tS Try.prog 132 = some 1 := by kernel_rfl
theorem tA132 : tA Try.prog 132 = some false := by kernel_rfl
theorem tB132 : tB Try.prog 132 = some 1 := by kernel_rfl
theorem tZ132 : tZ Try.prog 132 = some [.int .u8 0] := by kernel_rfl
theorem tU132 : Try.prog.underlying 132 = some (.int .u8) := by kernel_rfl
theorem tS133 : tS Try.prog 133 = some 1 := by kernel_rfl
theorem tA133 : tA Try.prog 133 = some false := by kernel_rfl
theorem tB133 : tB Try.prog 133 = some 1 := by kernel_rfl
theorem tZ133 : tZ Try.prog 133 = some [.int .u8 0] := by kernel_rfl
theorem tU133 : Try.prog.underlying 133 = some (.int .u8) := by kernel_rfl
theorem tS134 : tS Try.prog 134 = some 1 := by kernel_rfl
theorem tA134 : tA Try.prog 134 = some false := by kernel_rfl
theorem tB134 : tB Try.prog 134 = some 8 := by kernel_rfl
theorem tZ134 : tZ Try.prog 134 = some [.nilFunc] := by kernel_rfl
theorem tS135 : tS Try.prog 135 = some 1 := by kernel_rfl
theorem tA135 : tA Try.prog 135 = some false := by kernel_rfl
theorem tB135 : tB Try.prog 135 = some 8 := by kernel_rfl
theorem tZ135 : tZ Try.prog 135 = some [.pointer none] := by kernel_rfl
theorem tS136 : tS Try.prog 136 = some 1 := by kernel_rfl
theorem tA136 : tA Try.prog 136 = some false := by kernel_rfl
theorem tB136 : tB Try.prog 136 = some 4 := by kernel_rfl
theorem tZ136 : tZ Try.prog 136 = some [.int .i32 0] := by kernel_rfl
theorem tU136 : Try.prog.underlying 136 = some (.int .i32) := by kernel_rfl
theorem tS137 : tS Try.prog 137 = some 1 := by kernel_rfl
theorem tA137 : tA Try.prog 137 = some false := by kernel_rfl
theorem tB137 : tB Try.prog 137 = some 4 := by kernel_rfl
theorem tZ137 : tZ Try.prog 137 = some [.int .i32 0] := by kernel_rfl
theorem tU137 : Try.prog.underlying 137 = some (.int .i32) := by kernel_rfl
theorem tS138 : tS Try.prog 138 = some 11 := by kernel_rfl
theorem tA138 : tA Try.prog 138 = some true := by kernel_rfl
theorem tB138 : tB Try.prog 138 = some 48 := by kernel_rfl
theorem tZ138 : tZ Try.prog 138 = some [.int .u64 0, .int .u64 0, .int .u32 0, .int .u8 0, .int .u8 0, .int .u8 0, .int .u8 0, .nilFunc, .pointer none, .int .i32 0, .int .i32 0] := by kernel_rfl
theorem tF138_0 : tF Try.prog 138 0 = some (0, 12) := by kernel_rfl
theorem tF138_1 : tF Try.prog 138 1 = some (1, 12) := by kernel_rfl
theorem tF138_2 : tF Try.prog 138 2 = some (2, 131) := by kernel_rfl
theorem tF138_3 : tF Try.prog 138 3 = some (3, 132) := by kernel_rfl
theorem tF138_4 : tF Try.prog 138 4 = some (4, 5) := by kernel_rfl
theorem tF138_5 : tF Try.prog 138 5 = some (5, 5) := by kernel_rfl
theorem tF138_6 : tF Try.prog 138 6 = some (6, 133) := by kernel_rfl
theorem tF138_7 : tF Try.prog 138 7 = some (7, 134) := by kernel_rfl
theorem tF138_8 : tF Try.prog 138 8 = some (8, 135) := by kernel_rfl
theorem tF138_9 : tF Try.prog 138 9 = some (9, 136) := by kernel_rfl
theorem tF138_10 : tF Try.prog 138 10 = some (10, 137) := by kernel_rfl
theorem tP138 : tP Try.prog 138 = some [(0, 1), (1, 1), (2, 1), (3, 1), (4, 1), (5, 1), (6, 1), (7, 1), (8, 1), (9, 1), (10, 1)] := by kernel_rfl
theorem tS139 : tS Try.prog 139 = some 11 := by kernel_rfl
theorem tA139 : tA Try.prog 139 = some true := by kernel_rfl
theorem tB139 : tB Try.prog 139 = some 48 := by kernel_rfl
theorem tZ139 : tZ Try.prog 139 = some [.int .u64 0, .int .u64 0, .int .u32 0, .int .u8 0, .int .u8 0, .int .u8 0, .int .u8 0, .nilFunc, .pointer none, .int .i32 0, .int .i32 0] := by kernel_rfl
theorem tF139_0 : tF Try.prog 139 0 = some (0, 12) := by kernel_rfl
theorem tF139_1 : tF Try.prog 139 1 = some (1, 12) := by kernel_rfl
theorem tF139_2 : tF Try.prog 139 2 = some (2, 131) := by kernel_rfl
theorem tF139_3 : tF Try.prog 139 3 = some (3, 132) := by kernel_rfl
theorem tF139_4 : tF Try.prog 139 4 = some (4, 5) := by kernel_rfl
theorem tF139_5 : tF Try.prog 139 5 = some (5, 5) := by kernel_rfl
theorem tF139_6 : tF Try.prog 139 6 = some (6, 133) := by kernel_rfl
theorem tF139_7 : tF Try.prog 139 7 = some (7, 134) := by kernel_rfl
theorem tF139_8 : tF Try.prog 139 8 = some (8, 135) := by kernel_rfl
theorem tF139_9 : tF Try.prog 139 9 = some (9, 136) := by kernel_rfl
theorem tF139_10 : tF Try.prog 139 10 = some (10, 137) := by kernel_rfl
theorem tP139 : tP Try.prog 139 = some [(0, 1), (1, 1), (2, 1), (3, 1), (4, 1), (5, 1), (6, 1), (7, 1), (8, 1), (9, 1), (10, 1)] := by kernel_rfl
theorem tS140 : tS Try.prog 140 = some 1 := by kernel_rfl
theorem tA140 : tA Try.prog 140 = some false := by kernel_rfl
theorem tB140 : tB Try.prog 140 = some 8 := by kernel_rfl
theorem tZ140 : tZ Try.prog 140 = some [.pointer none] := by kernel_rfl
def eqTab : TypeId → List Value → List Value → Option Bool
  | _, _, _ => none
theorem eqTab_ok : ∀ t us vs b, eqTab t us vs = some b → Try.prog.eqGuardType Try.prog.depth t = false ∧ ∀ w : World, (Op.equalIn 10000 t (.agg us.toArray) (.agg vs.toArray)).run Try.prog w = .ok b w := by
  intro t us vs b h
  unfold eqTab at h
  split at h
  · cases h
theorem mixed : Try.prog.follows .mixedOrders = true := by kernel_rfl
/-- what is known of the program at the outset -/
def E0 : Env Try.prog := ⟨eqTab, eqTab_ok, fun _ _ => none, by simp⟩
def cl0 : FuncId → List AV → Option AV := fun _ _ => none
attribute [push_cast] tS1 tA1 tB1 tZ1 tS2 tA2 tB2 tZ2 tU2 tS3 tA3 tB3 tZ3 tU3 tS4 tA4 tB4 tZ4 tU4 tS5 tA5 tB5 tZ5 tU5 tS6 tA6 tB6 tZ6 tU6 tS7 tA7 tB7 tZ7 tF7_0 tF7_1 tF7_2 tF7_3 tP7 tS9 tA9 tB9 tZ9 tU9 tS12 tA12 tB12 tZ12 tU12 tS13 tA13 tB13 tZ13 tF13_0 tF13_1 tP13 tS15 tA15 tB15 tZ15 tS16 tA16 tB16 tZ16 tS17 tA17 tB17 tZ17 tS18 tA18 tB18 tZ18 tF18_0 tP18 tS19 tA19 tB19 tZ19 tF19_0 tP19 tS21 tA21 tB21 tZ21 tU21 tS22 tA22 tB22 tZ22 tE22 tR22 tU22 tS23 tA23 tB23 tZ23 tE23 tR23 tU23 tS24 tA24 tB24 tZ24 tS25 tA25 tB25 tZ25 tU25 tS26 tA26 tB26 tZ26 tF26_0 tF26_1 tF26_2 tP26 tS27 tA27 tB27 tZ27 tF27_0 tF27_1 tF27_2 tP27 tS28 tA28 tB28 tZ28 tE28 tR28 tU28 tS29 tA29 tB29 tZ29 tF29_0 tF29_1 tF29_2 tF29_3 tF29_4 tF29_5 tP29 tS30 tA30 tB30 tZ30 tF30_0 tF30_1 tF30_2 tF30_3 tF30_4 tF30_5 tP30 tS31 tA31 tB31 tZ31 tU31 tS33 tA33 tB33 tZ33 tS34 tA34 tB34 tZ34 tS35 tA35 tB35 tZ35 tS36 tA36 tB36 tZ36 tR36 tE36 tP36 tS38 tA38 tB38 tZ38 tS39 tA39 tB39 tZ39 tS40 tA40 tB40 tZ40 tS41 tA41 tB41 tZ41 tE41 tR41 tU41 tS42 tA42 tB42 tZ42 tS43 tA43 tB43 tZ43 tE43 tR43 tU43 tS44 tA44 tB44 tZ44 tS45 tA45 tB45 tZ45 tE45 tR45 tU45 tS46 tA46 tB46 tZ46 tF46_0 tF46_1 tP46 tS47 tA47 tB47 tZ47 tF47_0 tF47_1 tP47 tS48 tA48 tB48 tZ48 tF48_0 tF48_1 tF48_2 tF48_3 tF48_4 tF48_5 tF48_6 tP48 tS49 tA49 tB49 tZ49 tF49_0 tF49_1 tF49_2 tF49_3 tF49_4 tF49_5 tF49_6 tP49 tS50 tA50 tB50 tZ50 tE50 tR50 tU50 tS51 tA51 tB51 tZ51 tF51_0 tF51_1 tF51_2 tF51_3 tF51_4 tF51_5 tP51 tS52 tA52 tB52 tZ52 tF52_0 tF52_1 tF52_2 tF52_3 tF52_4 tF52_5 tP52 tS53 tA53 tB53 tZ53 tS54 tA54 tB54 tZ54 tS55 tA55 tB55 tZ55 tS56 tA56 tB56 tZ56 tS57 tA57 tB57 tZ57 tS58 tA58 tB58 tZ58 tS59 tA59 tB59 tZ59 tU59 tS60 tA60 tB60 tZ60 tF60_0 tF60_1 tF60_2 tF60_3 tP60 tS61 tA61 tB61 tZ61 tF61_0 tF61_1 tF61_2 tF61_3 tP61 tS62 tA62 tB62 tZ62 tS63 tA63 tB63 tZ63 tU63 tS64 tA64 tB64 tZ64 tE64 tR64 tU64 tS65 tA65 tB65 tZ65 tE65 tR65 tU65 tS66 tA66 tB66 tZ66 tS67 tA67 tB67 tZ67 tS68 tA68 tB68 tZ68 tU68 tS69 tA69 tB69 tZ69 tU69 tS70 tA70 tB70 tZ70 tS71 tA71 tB71 tZ71 tS73 tA73 tB73 tZ73 tS75 tA75 tB75 tZ75 tS77 tA77 tB77 tZ77 tS78 tA78 tB78 tZ78 tS79 tA79 tB79 tZ79 tS80 tA80 tB80 tZ80 tS81 tA81 tB81 tZ81 tS83 tA83 tB83 tZ83 tS84 tA84 tB84 tZ84 tS85 tA85 tB85 tZ85 tS86 tA86 tB86 tZ86 tS87 tA87 tB87 tZ87 tS88 tA88 tB88 tZ88 tS89 tA89 tB89 tZ89 tS90 tA90 tB90 tZ90 tS91 tA91 tB91 tZ91 tS92 tA92 tB92 tZ92 tS93 tA93 tB93 tZ93 tS94 tA94 tB94 tZ94 tS95 tA95 tB95 tZ95 tS96 tA96 tB96 tZ96 tS97 tA97 tB97 tZ97 tS98 tA98 tB98 tZ98 tS99 tA99 tB99 tZ99 tS101 tA101 tB101 tZ101 tS102 tA102 tB102 tZ102 tS104 tA104 tB104 tZ104 tS105 tA105 tB105 tZ105 tS106 tA106 tB106 tZ106 tS107 tA107 tB107 tZ107 tS108 tA108 tB108 tZ108 tS109 tA109 tB109 tZ109 tS110 tA110 tB110 tZ110 tS111 tA111 tB111 tZ111 tS112 tA112 tB112 tZ112 tS113 tA113 tB113 tZ113 tS114 tA114 tB114 tZ114 tS115 tA115 tB115 tZ115 tS116 tA116 tB116 tZ116 tS117 tA117 tB117 tZ117 tS118 tA118 tB118 tZ118 tS119 tA119 tB119 tZ119 tS120 tA120 tB120 tZ120 tS121 tA121 tB121 tZ121 tS122 tA122 tB122 tZ122 tS123 tA123 tB123 tZ123 tS124 tA124 tB124 tZ124 tS125 tA125 tB125 tZ125 tF125_0 tF125_1 tF125_2 tF125_3 tP125 tS127 tA127 tB127 tZ127 tR127 tE127 tP127 tS128 tA128 tB128 tZ128 tF128_0 tP128 tS130 tA130 tB130 tZ130 tS131 tA131 tB131 tZ131 tU131 tS132 tA132 tB132 tZ132 tU132 tS133 tA133 tB133 tZ133 tU133 tS134 tA134 tB134 tZ134 tS135 tA135 tB135 tZ135 tS136 tA136 tB136 tZ136 tU136 tS137 tA137 tB137 tZ137 tU137 tS138 tA138 tB138 tZ138 tF138_0 tF138_1 tF138_2 tF138_3 tF138_4 tF138_5 tF138_6 tF138_7 tF138_8 tF138_9 tF138_10 tP138 tS139 tA139 tB139 tZ139 tF139_0 tF139_1 tF139_2 tF139_3 tF139_4 tF139_5 tF139_6 tF139_7 tF139_8 tF139_9 tF139_10 tP139 tS140 tA140 tB140 tZ140 eqTab
theorem E0_cl : E0.cl = cl0 := rfl
theorem E0_eq : E0.eq = eqTab := rfl
attribute [push_cast] E0_cl E0_eq cl0
end Go.Proofs.Ytlbdpnlmdcajbaa
