/- Facts on the types of the program. -/
import Derived.Test.YtdeckjoeggmagaaProg
import Derived.Test.YtdeckjoeggmagaaMC
namespace Go.Proofs.Ytdeckjoeggmagaa
set_option linter.unusedVariables false

theorem tS1 : tS Try.prog 1 = some 1 := by kernel_rfl
theorem tA1 : tA Try.prog 1 = some false := by kernel_rfl
theorem tB1 : tB Try.prog 1 = some 8 := by kernel_rfl
theorem tZ1 : tZ Try.prog 1 = some [.nilFunc] := by kernel_rfl
theorem tS2 : tS Try.prog 2 = some 1 := by kernel_rfl
theorem tA2 : tA Try.prog 2 = some false := by kernel_rfl
theorem tB2 : tB Try.prog 2 = some 8 := by kernel_rfl
theorem tZ2 : tZ Try.prog 2 = some [.int .i64 0] := by kernel_rfl
theorem tU2 : Try.prog.underlying 2 = some (.int .i64) := by kernel_rfl
theorem tS3 : tS Try.prog 3 = some 1 := by kernel_rfl
theorem tA3 : tA Try.prog 3 = some false := by kernel_rfl
theorem tB3 : tB Try.prog 3 = some 8 := by kernel_rfl
theorem tZ3 : tZ Try.prog 3 = some [.int .i64 0] := by kernel_rfl
theorem tU3 : Try.prog.underlying 3 = some (.int .i64) := by kernel_rfl
theorem tS4 : tS Try.prog 4 = some 1 := by kernel_rfl
theorem tA4 : tA Try.prog 4 = some false := by kernel_rfl
theorem tB4 : tB Try.prog 4 = some 1 := by kernel_rfl
theorem tZ4 : tZ Try.prog 4 = some [.bool false] := by kernel_rfl
theorem tU4 : Try.prog.underlying 4 = some .bool := by kernel_rfl
theorem tS5 : tS Try.prog 5 = some 1 := by kernel_rfl
theorem tA5 : tA Try.prog 5 = some false := by kernel_rfl
theorem tB5 : tB Try.prog 5 = some 1 := by kernel_rfl
theorem tZ5 : tZ Try.prog 5 = some [.int .u8 0] := by kernel_rfl
theorem tU5 : Try.prog.underlying 5 = some (.int .u8) := by kernel_rfl
theorem tS6 : tS Try.prog 6 = some 1 := by kernel_rfl
theorem tA6 : tA Try.prog 6 = some false := by kernel_rfl
theorem tB6 : tB Try.prog 6 = some 1 := by kernel_rfl
theorem tZ6 : tZ Try.prog 6 = some [.int .u8 0] := by kernel_rfl
theorem tU6 : Try.prog.underlying 6 = some (.int .u8) := by kernel_rfl
theorem tS7 : tS Try.prog 7 = some 4 := by kernel_rfl
theorem tA7 : tA Try.prog 7 = some true := by kernel_rfl
theorem tB7 : tB Try.prog 7 = some 24 := by kernel_rfl
theorem tZ7 : tZ Try.prog 7 = some [.int .i64 0, .int .i64 0, .bool false, .int .u8 0] := by kernel_rfl
theorem tF7_0 : tF Try.prog 7 0 = some (0, 2) := by kernel_rfl
theorem tF7_1 : tF Try.prog 7 1 = some (1, 3) := by kernel_rfl
theorem tF7_2 : tF Try.prog 7 2 = some (2, 4) := by kernel_rfl
theorem tF7_3 : tF Try.prog 7 3 = some (3, 6) := by kernel_rfl
theorem tP7 : tP Try.prog 7 = some [(0, 1), (1, 1), (2, 1), (3, 1)] := by kernel_rfl
theorem tS9 : tS Try.prog 9 = some 1 := by kernel_rfl
theorem tA9 : tA Try.prog 9 = some false := by kernel_rfl
theorem tB9 : tB Try.prog 9 = some 16 := by kernel_rfl
theorem tZ9 : tZ Try.prog 9 = some [.string ⟨#[]⟩] := by kernel_rfl
theorem tU9 : Try.prog.underlying 9 = some .string := by kernel_rfl
theorem tS12 : tS Try.prog 12 = some 1 := by kernel_rfl
theorem tA12 : tA Try.prog 12 = some false := by kernel_rfl
theorem tB12 : tB Try.prog 12 = some 8 := by kernel_rfl
theorem tZ12 : tZ Try.prog 12 = some [.int .u64 0] := by kernel_rfl
theorem tU12 : Try.prog.underlying 12 = some (.int .u64) := by kernel_rfl
theorem tS13 : tS Try.prog 13 = some 2 := by kernel_rfl
theorem tA13 : tA Try.prog 13 = some true := by kernel_rfl
theorem tB13 : tB Try.prog 13 = some 24 := by kernel_rfl
theorem tZ13 : tZ Try.prog 13 = some [.string ⟨#[]⟩, .int .u64 0] := by kernel_rfl
theorem tF13_0 : tF Try.prog 13 0 = some (0, 9) := by kernel_rfl
theorem tF13_1 : tF Try.prog 13 1 = some (1, 12) := by kernel_rfl
theorem tP13 : tP Try.prog 13 = some [(0, 1), (1, 1)] := by kernel_rfl
theorem tS15 : tS Try.prog 15 = some 1 := by kernel_rfl
theorem tA15 : tA Try.prog 15 = some false := by kernel_rfl
theorem tB15 : tB Try.prog 15 = some 8 := by kernel_rfl
theorem tZ15 : tZ Try.prog 15 = some [.pointer none] := by kernel_rfl
theorem tS16 : tS Try.prog 16 = some 1 := by kernel_rfl
theorem tA16 : tA Try.prog 16 = some false := by kernel_rfl
theorem tB16 : tB Try.prog 16 = some 8 := by kernel_rfl
theorem tZ16 : tZ Try.prog 16 = some [.pointer none] := by kernel_rfl
theorem tS17 : tS Try.prog 17 = some 1 := by kernel_rfl
theorem tA17 : tA Try.prog 17 = some false := by kernel_rfl
theorem tB17 : tB Try.prog 17 = some 8 := by kernel_rfl
theorem tZ17 : tZ Try.prog 17 = some [.pointer none] := by kernel_rfl
theorem tS18 : tS Try.prog 18 = some 1 := by kernel_rfl
theorem tA18 : tA Try.prog 18 = some true := by kernel_rfl
theorem tB18 : tB Try.prog 18 = some 8 := by kernel_rfl
theorem tZ18 : tZ Try.prog 18 = some [.pointer none] := by kernel_rfl
theorem tF18_0 : tF Try.prog 18 0 = some (0, 17) := by kernel_rfl
theorem tP18 : tP Try.prog 18 = some [(0, 1)] := by kernel_rfl
theorem tS19 : tS Try.prog 19 = some 1 := by kernel_rfl
theorem tA19 : tA Try.prog 19 = some true := by kernel_rfl
theorem tB19 : tB Try.prog 19 = some 8 := by kernel_rfl
theorem tZ19 : tZ Try.prog 19 = some [.pointer none] := by kernel_rfl
theorem tF19_0 : tF Try.prog 19 0 = some (0, 17) := by kernel_rfl
theorem tP19 : tP Try.prog 19 = some [(0, 1)] := by kernel_rfl
theorem tS21 : tS Try.prog 21 = some 1 := by kernel_rfl
theorem tA21 : tA Try.prog 21 = some false := by kernel_rfl
theorem tB21 : tB Try.prog 21 = some 4 := by kernel_rfl
theorem tZ21 : tZ Try.prog 21 = some [.int .i32 0] := by kernel_rfl
theorem tU21 : Try.prog.underlying 21 = some (.int .i32) := by kernel_rfl
theorem tS22 : tS Try.prog 22 = some 1 := by kernel_rfl
theorem tA22 : tA Try.prog 22 = some false := by kernel_rfl
theorem tB22 : tB Try.prog 22 = some 24 := by kernel_rfl
theorem tZ22 : tZ Try.prog 22 = some [.slice none 0 0] := by kernel_rfl
theorem tE22 : tE Try.prog 22 = some 26 := by kernel_rfl
theorem tR22 : tR Try.prog 22 = none := by kernel_rfl
theorem tU22 : Try.prog.underlying 22 = some (.slice 26) := by kernel_rfl
theorem tS23 : tS Try.prog 23 = some 1 := by kernel_rfl
theorem tA23 : tA Try.prog 23 = some false := by kernel_rfl
theorem tB23 : tB Try.prog 23 = some 8 := by kernel_rfl
theorem tZ23 : tZ Try.prog 23 = some [.nilFunc] := by kernel_rfl
theorem tS24 : tS Try.prog 24 = some 1 := by kernel_rfl
theorem tA24 : tA Try.prog 24 = some false := by kernel_rfl
theorem tB24 : tB Try.prog 24 = some 8 := by kernel_rfl
theorem tZ24 : tZ Try.prog 24 = some [.nilFunc] := by kernel_rfl
theorem tS25 : tS Try.prog 25 = some 3 := by kernel_rfl
theorem tA25 : tA Try.prog 25 = some true := by kernel_rfl
theorem tB25 : tB Try.prog 25 = some 24 := by kernel_rfl
theorem tZ25 : tZ Try.prog 25 = some [.int .i64 0, .int .i64 0, .int .i64 0] := by kernel_rfl
theorem tF25_0 : tF Try.prog 25 0 = some (0, 3) := by kernel_rfl
theorem tF25_1 : tF Try.prog 25 1 = some (1, 3) := by kernel_rfl
theorem tF25_2 : tF Try.prog 25 2 = some (2, 3) := by kernel_rfl
theorem tP25 : tP Try.prog 25 = some [(0, 1), (1, 1), (2, 1)] := by kernel_rfl
theorem tS26 : tS Try.prog 26 = some 3 := by kernel_rfl
theorem tA26 : tA Try.prog 26 = some true := by kernel_rfl
theorem tB26 : tB Try.prog 26 = some 24 := by kernel_rfl
theorem tZ26 : tZ Try.prog 26 = some [.int .i64 0, .int .i64 0, .int .i64 0] := by kernel_rfl
theorem tF26_0 : tF Try.prog 26 0 = some (0, 3) := by kernel_rfl
theorem tF26_1 : tF Try.prog 26 1 = some (1, 3) := by kernel_rfl
theorem tF26_2 : tF Try.prog 26 2 = some (2, 3) := by kernel_rfl
theorem tP26 : tP Try.prog 26 = some [(0, 1), (1, 1), (2, 1)] := by kernel_rfl
theorem tS27 : tS Try.prog 27 = some 1 := by kernel_rfl
theorem tA27 : tA Try.prog 27 = some false := by kernel_rfl
theorem tB27 : tB Try.prog 27 = some 8 := by kernel_rfl
theorem tZ27 : tZ Try.prog 27 = some [.int .i64 0] := by kernel_rfl
theorem tU27 : Try.prog.underlying 27 = some (.int .i64) := by kernel_rfl
theorem tS28 : tS Try.prog 28 = some 1 := by kernel_rfl
theorem tA28 : tA Try.prog 28 = some false := by kernel_rfl
theorem tB28 : tB Try.prog 28 = some 8 := by kernel_rfl
theorem tZ28 : tZ Try.prog 28 = some [.nilFunc] := by kernel_rfl
theorem tS29 : tS Try.prog 29 = some 1 := by kernel_rfl
theorem tA29 : tA Try.prog 29 = some false := by kernel_rfl
theorem tB29 : tB Try.prog 29 = some 8 := by kernel_rfl
theorem tZ29 : tZ Try.prog 29 = some [.nilFunc] := by kernel_rfl
theorem tS30 : tS Try.prog 30 = some 1 := by kernel_rfl
theorem tA30 : tA Try.prog 30 = some false := by kernel_rfl
theorem tB30 : tB Try.prog 30 = some 8 := by kernel_rfl
theorem tZ30 : tZ Try.prog 30 = some [.nilFunc] := by kernel_rfl
theorem tS31 : tS Try.prog 31 = some 1 := by kernel_rfl
theorem tA31 : tA Try.prog 31 = some false := by kernel_rfl
theorem tB31 : tB Try.prog 31 = some 8 := by kernel_rfl
theorem tZ31 : tZ Try.prog 31 = some [.nilFunc] := by kernel_rfl
theorem tS32 : tS Try.prog 32 = some 1 := by kernel_rfl
theorem tA32 : tA Try.prog 32 = some false := by kernel_rfl
theorem tB32 : tB Try.prog 32 = some 8 := by kernel_rfl
theorem tZ32 : tZ Try.prog 32 = some [.nilFunc] := by kernel_rfl
theorem tS33 : tS Try.prog 33 = some 5 := by kernel_rfl
theorem tA33 : tA Try.prog 33 = some true := by kernel_rfl
theorem tB33 : tB Try.prog 33 = some 56 := by kernel_rfl
theorem tZ33 : tZ Try.prog 33 = some [.int .i64 0, .int .i64 0, .int .i64 0, .bool false, .slice none 0 0] := by kernel_rfl
theorem tF33_0 : tF Try.prog 33 0 = some (0, 3) := by kernel_rfl
theorem tF33_1 : tF Try.prog 33 1 = some (1, 3) := by kernel_rfl
theorem tF33_2 : tF Try.prog 33 2 = some (2, 3) := by kernel_rfl
theorem tF33_3 : tF Try.prog 33 3 = some (3, 4) := by kernel_rfl
theorem tF33_4 : tF Try.prog 33 4 = some (4, 22) := by kernel_rfl
theorem tP33 : tP Try.prog 33 = some [(0, 1), (1, 1), (2, 1), (3, 1), (4, 1)] := by kernel_rfl
theorem tS34 : tS Try.prog 34 = some 5 := by kernel_rfl
theorem tA34 : tA Try.prog 34 = some true := by kernel_rfl
theorem tB34 : tB Try.prog 34 = some 56 := by kernel_rfl
theorem tZ34 : tZ Try.prog 34 = some [.int .i64 0, .int .i64 0, .int .i64 0, .bool false, .slice none 0 0] := by kernel_rfl
theorem tF34_0 : tF Try.prog 34 0 = some (0, 3) := by kernel_rfl
theorem tF34_1 : tF Try.prog 34 1 = some (1, 3) := by kernel_rfl
theorem tF34_2 : tF Try.prog 34 2 = some (2, 3) := by kernel_rfl
theorem tF34_3 : tF Try.prog 34 3 = some (3, 4) := by kernel_rfl
theorem tF34_4 : tF Try.prog 34 4 = some (4, 22) := by kernel_rfl
theorem tP34 : tP Try.prog 34 = some [(0, 1), (1, 1), (2, 1), (3, 1), (4, 1)] := by kernel_rfl
theorem tS35 : tS Try.prog 35 = some 3 := by kernel_rfl
theorem tA35 : tA Try.prog 35 = some true := by kernel_rfl
theorem tB35 : tB Try.prog 35 = some 24 := by kernel_rfl
theorem tZ35 : tZ Try.prog 35 = some [.int .i64 0, .int .i64 0, .int .i64 0] := by kernel_rfl
theorem tF35_0 : tF Try.prog 35 0 = some (0, 3) := by kernel_rfl
theorem tF35_1 : tF Try.prog 35 1 = some (1, 3) := by kernel_rfl
theorem tF35_2 : tF Try.prog 35 2 = some (2, 2) := by kernel_rfl
theorem tP35 : tP Try.prog 35 = some [(0, 1), (1, 1), (2, 1)] := by kernel_rfl
theorem tS36 : tS Try.prog 36 = some 3 := by kernel_rfl
theorem tA36 : tA Try.prog 36 = some true := by kernel_rfl
theorem tB36 : tB Try.prog 36 = some 24 := by kernel_rfl
theorem tZ36 : tZ Try.prog 36 = some [.int .i64 0, .int .i64 0, .int .i64 0] := by kernel_rfl
theorem tF36_0 : tF Try.prog 36 0 = some (0, 3) := by kernel_rfl
theorem tF36_1 : tF Try.prog 36 1 = some (1, 3) := by kernel_rfl
theorem tF36_2 : tF Try.prog 36 2 = some (2, 2) := by kernel_rfl
theorem tP36 : tP Try.prog 36 = some [(0, 1), (1, 1), (2, 1)] := by kernel_rfl
theorem tS37 : tS Try.prog 37 = some 1 := by kernel_rfl
theorem tA37 : tA Try.prog 37 = some false := by kernel_rfl
theorem tB37 : tB Try.prog 37 = some 8 := by kernel_rfl
theorem tZ37 : tZ Try.prog 37 = some [.nilFunc] := by kernel_rfl
theorem tS38 : tS Try.prog 38 = some 1 := by kernel_rfl
theorem tA38 : tA Try.prog 38 = some false := by kernel_rfl
theorem tB38 : tB Try.prog 38 = some 24 := by kernel_rfl
theorem tZ38 : tZ Try.prog 38 = some [.slice none 0 0] := by kernel_rfl
theorem tE38 : tE Try.prog 38 = some 61 := by kernel_rfl
theorem tR38 : tR Try.prog 38 = none := by kernel_rfl
theorem tU38 : Try.prog.underlying 38 = some (.slice 61) := by kernel_rfl
theorem tS40 : tS Try.prog 40 = some 1 := by kernel_rfl
theorem tA40 : tA Try.prog 40 = some false := by kernel_rfl
theorem tB40 : tB Try.prog 40 = some 8 := by kernel_rfl
theorem tZ40 : tZ Try.prog 40 = some [.nilFunc] := by kernel_rfl
theorem tS41 : tS Try.prog 41 = some 1 := by kernel_rfl
theorem tA41 : tA Try.prog 41 = some false := by kernel_rfl
theorem tB41 : tB Try.prog 41 = some 8 := by kernel_rfl
theorem tZ41 : tZ Try.prog 41 = some [.nilFunc] := by kernel_rfl
theorem tS42 : tS Try.prog 42 = some 1 := by kernel_rfl
theorem tA42 : tA Try.prog 42 = some false := by kernel_rfl
theorem tB42 : tB Try.prog 42 = some 8 := by kernel_rfl
theorem tZ42 : tZ Try.prog 42 = some [.nilFunc] := by kernel_rfl
theorem tS43 : tS Try.prog 43 = some 1 := by kernel_rfl
theorem tA43 : tA Try.prog 43 = some false := by kernel_rfl
theorem tB43 : tB Try.prog 43 = some 8 := by kernel_rfl
theorem tZ43 : tZ Try.prog 43 = some [.nilFunc] := by kernel_rfl
theorem tS44 : tS Try.prog 44 = some 1 := by kernel_rfl
theorem tA44 : tA Try.prog 44 = some false := by kernel_rfl
theorem tB44 : tB Try.prog 44 = some 24 := by kernel_rfl
theorem tZ44 : tZ Try.prog 44 = some [.slice none 0 0] := by kernel_rfl
theorem tE44 : tE Try.prog 44 = some 86 := by kernel_rfl
theorem tR44 : tR Try.prog 44 = none := by kernel_rfl
theorem tU44 : Try.prog.underlying 44 = some (.slice 86) := by kernel_rfl
theorem tS45 : tS Try.prog 45 = some 1 := by kernel_rfl
theorem tA45 : tA Try.prog 45 = some false := by kernel_rfl
theorem tB45 : tB Try.prog 45 = some 24 := by kernel_rfl
theorem tZ45 : tZ Try.prog 45 = some [.slice none 0 0] := by kernel_rfl
theorem tE45 : tE Try.prog 45 = some 36 := by kernel_rfl
theorem tR45 : tR Try.prog 45 = none := by kernel_rfl
theorem tU45 : Try.prog.underlying 45 = some (.slice 36) := by kernel_rfl
theorem tS46 : tS Try.prog 46 = some 3 := by kernel_rfl
theorem tA46 : tA Try.prog 46 = some true := by kernel_rfl
theorem tB46 : tB Try.prog 46 = some 72 := by kernel_rfl
theorem tZ46 : tZ Try.prog 46 = some [.slice none 0 0, .slice none 0 0, .slice none 0 0] := by kernel_rfl
theorem tF46_0 : tF Try.prog 46 0 = some (0, 44) := by kernel_rfl
theorem tF46_1 : tF Try.prog 46 1 = some (1, 22) := by kernel_rfl
theorem tF46_2 : tF Try.prog 46 2 = some (2, 45) := by kernel_rfl
theorem tP46 : tP Try.prog 46 = some [(0, 1), (1, 1), (2, 1)] := by kernel_rfl
theorem tS47 : tS Try.prog 47 = some 3 := by kernel_rfl
theorem tA47 : tA Try.prog 47 = some true := by kernel_rfl
theorem tB47 : tB Try.prog 47 = some 72 := by kernel_rfl
theorem tZ47 : tZ Try.prog 47 = some [.slice none 0 0, .slice none 0 0, .slice none 0 0] := by kernel_rfl
theorem tF47_0 : tF Try.prog 47 0 = some (0, 44) := by kernel_rfl
theorem tF47_1 : tF Try.prog 47 1 = some (1, 22) := by kernel_rfl
theorem tF47_2 : tF Try.prog 47 2 = some (2, 45) := by kernel_rfl
theorem tP47 : tP Try.prog 47 = some [(0, 1), (1, 1), (2, 1)] := by kernel_rfl
theorem tS48 : tS Try.prog 48 = some 1 := by kernel_rfl
theorem tA48 : tA Try.prog 48 = some false := by kernel_rfl
theorem tB48 : tB Try.prog 48 = some 24 := by kernel_rfl
theorem tZ48 : tZ Try.prog 48 = some [.slice none 0 0] := by kernel_rfl
theorem tE48 : tE Try.prog 48 = some 51 := by kernel_rfl
theorem tR48 : tR Try.prog 48 = none := by kernel_rfl
theorem tU48 : Try.prog.underlying 48 = some (.slice 51) := by kernel_rfl
theorem tS49 : tS Try.prog 49 = some 1 := by kernel_rfl
theorem tA49 : tA Try.prog 49 = some false := by kernel_rfl
theorem tB49 : tB Try.prog 49 = some 8 := by kernel_rfl
theorem tZ49 : tZ Try.prog 49 = some [.nilFunc] := by kernel_rfl
theorem tS50 : tS Try.prog 50 = some 6 := by kernel_rfl
theorem tA50 : tA Try.prog 50 = some true := by kernel_rfl
theorem tB50 : tB Try.prog 50 = some 80 := by kernel_rfl
theorem tZ50 : tZ Try.prog 50 = some [.int .i64 0, .int .i64 0, .int .i64 0, .int .i64 0, .slice none 0 0, .slice none 0 0] := by kernel_rfl
theorem tF50_0 : tF Try.prog 50 0 = some (0, 3) := by kernel_rfl
theorem tF50_1 : tF Try.prog 50 1 = some (1, 26) := by kernel_rfl
theorem tF50_2 : tF Try.prog 50 2 = some (4, 22) := by kernel_rfl
theorem tF50_3 : tF Try.prog 50 3 = some (5, 45) := by kernel_rfl
theorem tP50 : tP Try.prog 50 = some [(0, 1), (1, 3), (4, 1), (5, 1)] := by kernel_rfl
theorem tS51 : tS Try.prog 51 = some 6 := by kernel_rfl
theorem tA51 : tA Try.prog 51 = some true := by kernel_rfl
theorem tB51 : tB Try.prog 51 = some 80 := by kernel_rfl
theorem tZ51 : tZ Try.prog 51 = some [.int .i64 0, .int .i64 0, .int .i64 0, .int .i64 0, .slice none 0 0, .slice none 0 0] := by kernel_rfl
theorem tF51_0 : tF Try.prog 51 0 = some (0, 3) := by kernel_rfl
theorem tF51_1 : tF Try.prog 51 1 = some (1, 26) := by kernel_rfl
theorem tF51_2 : tF Try.prog 51 2 = some (4, 22) := by kernel_rfl
theorem tF51_3 : tF Try.prog 51 3 = some (5, 45) := by kernel_rfl
theorem tP51 : tP Try.prog 51 = some [(0, 1), (1, 3), (4, 1), (5, 1)] := by kernel_rfl
theorem tS53 : tS Try.prog 53 = some 1 := by kernel_rfl
theorem tA53 : tA Try.prog 53 = some false := by kernel_rfl
theorem tB53 : tB Try.prog 53 = some 8 := by kernel_rfl
theorem tZ53 : tZ Try.prog 53 = some [.nilFunc] := by kernel_rfl
theorem tS54 : tS Try.prog 54 = some 1 := by kernel_rfl
theorem tA54 : tA Try.prog 54 = some false := by kernel_rfl
theorem tB54 : tB Try.prog 54 = some 8 := by kernel_rfl
theorem tZ54 : tZ Try.prog 54 = some [.nilFunc] := by kernel_rfl
theorem tS55 : tS Try.prog 55 = some 1 := by kernel_rfl
theorem tA55 : tA Try.prog 55 = some false := by kernel_rfl
theorem tB55 : tB Try.prog 55 = some 8 := by kernel_rfl
theorem tZ55 : tZ Try.prog 55 = some [.nilFunc] := by kernel_rfl
theorem tS56 : tS Try.prog 56 = some 1 := by kernel_rfl
theorem tA56 : tA Try.prog 56 = some false := by kernel_rfl
theorem tB56 : tB Try.prog 56 = some 8 := by kernel_rfl
theorem tZ56 : tZ Try.prog 56 = some [.nilFunc] := by kernel_rfl
theorem tS57 : tS Try.prog 57 = some 1 := by kernel_rfl
theorem tA57 : tA Try.prog 57 = some false := by kernel_rfl
theorem tB57 : tB Try.prog 57 = some 8 := by kernel_rfl
theorem tZ57 : tZ Try.prog 57 = some [.nilFunc] := by kernel_rfl
theorem tS59 : tS Try.prog 59 = some 1 := by kernel_rfl
theorem tA59 : tA Try.prog 59 = some false := by kernel_rfl
theorem tB59 : tB Try.prog 59 = some 8 := by kernel_rfl
theorem tZ59 : tZ Try.prog 59 = some [.nilFunc] := by kernel_rfl
theorem tS60 : tS Try.prog 60 = some 7 := by kernel_rfl
theorem tA60 : tA Try.prog 60 = some true := by kernel_rfl
theorem tB60 : tB Try.prog 60 = some 56 := by kernel_rfl
theorem tZ60 : tZ Try.prog 60 = some [.int .i64 0, .int .i64 0, .int .i64 0, .int .i64 0, .int .i64 0, .int .i64 0, .int .i64 0] := by kernel_rfl
theorem tF60_0 : tF Try.prog 60 0 = some (0, 3) := by kernel_rfl
theorem tF60_1 : tF Try.prog 60 1 = some (1, 26) := by kernel_rfl
theorem tF60_2 : tF Try.prog 60 2 = some (4, 36) := by kernel_rfl
theorem tP60 : tP Try.prog 60 = some [(0, 1), (1, 3), (4, 3)] := by kernel_rfl
theorem tS61 : tS Try.prog 61 = some 7 := by kernel_rfl
theorem tA61 : tA Try.prog 61 = some true := by kernel_rfl
theorem tB61 : tB Try.prog 61 = some 56 := by kernel_rfl
theorem tZ61 : tZ Try.prog 61 = some [.int .i64 0, .int .i64 0, .int .i64 0, .int .i64 0, .int .i64 0, .int .i64 0, .int .i64 0] := by kernel_rfl
theorem tF61_0 : tF Try.prog 61 0 = some (0, 3) := by kernel_rfl
theorem tF61_1 : tF Try.prog 61 1 = some (1, 26) := by kernel_rfl
theorem tF61_2 : tF Try.prog 61 2 = some (4, 36) := by kernel_rfl
theorem tP61 : tP Try.prog 61 = some [(0, 1), (1, 3), (4, 3)] := by kernel_rfl
theorem tS63 : tS Try.prog 63 = some 1 := by kernel_rfl
theorem tA63 : tA Try.prog 63 = some false := by kernel_rfl
theorem tB63 : tB Try.prog 63 = some 8 := by kernel_rfl
theorem tZ63 : tZ Try.prog 63 = some [.nilFunc] := by kernel_rfl
theorem tS64 : tS Try.prog 64 = some 1 := by kernel_rfl
theorem tA64 : tA Try.prog 64 = some false := by kernel_rfl
theorem tB64 : tB Try.prog 64 = some 8 := by kernel_rfl
theorem tZ64 : tZ Try.prog 64 = some [.nilFunc] := by kernel_rfl
theorem tS65 : tS Try.prog 65 = some 1 := by kernel_rfl
theorem tA65 : tA Try.prog 65 = some false := by kernel_rfl
theorem tB65 : tB Try.prog 65 = some 24 := by kernel_rfl
theorem tZ65 : tZ Try.prog 65 = some [.slice none 0 0] := by kernel_rfl
theorem tE65 : tE Try.prog 65 = some 3 := by kernel_rfl
theorem tR65 : tR Try.prog 65 = none := by kernel_rfl
theorem tU65 : Try.prog.underlying 65 = some (.slice 3) := by kernel_rfl
theorem tS66 : tS Try.prog 66 = some 1 := by kernel_rfl
theorem tA66 : tA Try.prog 66 = some false := by kernel_rfl
theorem tB66 : tB Try.prog 66 = some 8 := by kernel_rfl
theorem tZ66 : tZ Try.prog 66 = some [.int .u64 0] := by kernel_rfl
theorem tU66 : Try.prog.underlying 66 = some (.int .u64) := by kernel_rfl
theorem tS67 : tS Try.prog 67 = some 1 := by kernel_rfl
theorem tA67 : tA Try.prog 67 = some false := by kernel_rfl
theorem tB67 : tB Try.prog 67 = some 8 := by kernel_rfl
theorem tZ67 : tZ Try.prog 67 = some [.nilFunc] := by kernel_rfl
theorem tS69 : tS Try.prog 69 = some 1 := by kernel_rfl
theorem tA69 : tA Try.prog 69 = some false := by kernel_rfl
theorem tB69 : tB Try.prog 69 = some 8 := by kernel_rfl
theorem tZ69 : tZ Try.prog 69 = some [.nilFunc] := by kernel_rfl
theorem tS70 : tS Try.prog 70 = some 1 := by kernel_rfl
theorem tA70 : tA Try.prog 70 = some false := by kernel_rfl
theorem tB70 : tB Try.prog 70 = some 24 := by kernel_rfl
theorem tZ70 : tZ Try.prog 70 = some [.slice none 0 0] := by kernel_rfl
theorem tE70 : tE Try.prog 70 = some 2 := by kernel_rfl
theorem tR70 : tR Try.prog 70 = none := by kernel_rfl
theorem tU70 : Try.prog.underlying 70 = some (.slice 2) := by kernel_rfl
theorem tS71 : tS Try.prog 71 = some 1 := by kernel_rfl
theorem tA71 : tA Try.prog 71 = some false := by kernel_rfl
theorem tB71 : tB Try.prog 71 = some 8 := by kernel_rfl
theorem tZ71 : tZ Try.prog 71 = some [.nilFunc] := by kernel_rfl
theorem tS72 : tS Try.prog 72 = some 1 := by kernel_rfl
theorem tA72 : tA Try.prog 72 = some false := by kernel_rfl
theorem tB72 : tB Try.prog 72 = some 8 := by kernel_rfl
theorem tZ72 : tZ Try.prog 72 = some [.nilFunc] := by kernel_rfl
theorem tS73 : tS Try.prog 73 = some 1 := by kernel_rfl
theorem tA73 : tA Try.prog 73 = some false := by kernel_rfl
theorem tB73 : tB Try.prog 73 = some 8 := by kernel_rfl
theorem tZ73 : tZ Try.prog 73 = some [.nilFunc] := by kernel_rfl
theorem tS74 : tS Try.prog 74 = some 1 := by kernel_rfl
theorem tA74 : tA Try.prog 74 = some false := by kernel_rfl
theorem tB74 : tB Try.prog 74 = some 8 := by kernel_rfl
theorem tZ74 : tZ Try.prog 74 = some [.nilFunc] := by kernel_rfl
theorem tS76 : tS Try.prog 76 = some 1 := by kernel_rfl
theorem tA76 : tA Try.prog 76 = some false := by kernel_rfl
theorem tB76 : tB Try.prog 76 = some 8 := by kernel_rfl
theorem tZ76 : tZ Try.prog 76 = some [.nilFunc] := by kernel_rfl
theorem tS77 : tS Try.prog 77 = some 1 := by kernel_rfl
theorem tA77 : tA Try.prog 77 = some false := by kernel_rfl
theorem tB77 : tB Try.prog 77 = some 8 := by kernel_rfl
theorem tZ77 : tZ Try.prog 77 = some [.map none] := by kernel_rfl
theorem tU77 : Try.prog.underlying 77 = some (.map 26 45) := by kernel_rfl
theorem tS78 : tS Try.prog 78 = some 1 := by kernel_rfl
theorem tA78 : tA Try.prog 78 = some false := by kernel_rfl
theorem tB78 : tB Try.prog 78 = some 8 := by kernel_rfl
theorem tZ78 : tZ Try.prog 78 = some [.nilFunc] := by kernel_rfl
theorem tS79 : tS Try.prog 79 = some 1 := by kernel_rfl
theorem tA79 : tA Try.prog 79 = some false := by kernel_rfl
theorem tB79 : tB Try.prog 79 = some 8 := by kernel_rfl
theorem tZ79 : tZ Try.prog 79 = some [.nilFunc] := by kernel_rfl
theorem tS80 : tS Try.prog 80 = some 1 := by kernel_rfl
theorem tA80 : tA Try.prog 80 = some false := by kernel_rfl
theorem tB80 : tB Try.prog 80 = some 8 := by kernel_rfl
theorem tZ80 : tZ Try.prog 80 = some [.nilFunc] := by kernel_rfl
theorem tS81 : tS Try.prog 81 = some 1 := by kernel_rfl
theorem tA81 : tA Try.prog 81 = some false := by kernel_rfl
theorem tB81 : tB Try.prog 81 = some 8 := by kernel_rfl
theorem tZ81 : tZ Try.prog 81 = some [.nilFunc] := by kernel_rfl
theorem tS82 : tS Try.prog 82 = some 1 := by kernel_rfl
theorem tA82 : tA Try.prog 82 = some false := by kernel_rfl
theorem tB82 : tB Try.prog 82 = some 8 := by kernel_rfl
theorem tZ82 : tZ Try.prog 82 = some [.nilFunc] := by kernel_rfl
theorem tS83 : tS Try.prog 83 = some 1 := by kernel_rfl
theorem tA83 : tA Try.prog 83 = some false := by kernel_rfl
theorem tB83 : tB Try.prog 83 = some 8 := by kernel_rfl
theorem tZ83 : tZ Try.prog 83 = some [.nilFunc] := by kernel_rfl
theorem tS84 : tS Try.prog 84 = some 1 := by kernel_rfl
theorem tA84 : tA Try.prog 84 = some false := by kernel_rfl
theorem tB84 : tB Try.prog 84 = some 8 := by kernel_rfl
theorem tZ84 : tZ Try.prog 84 = some [.nilFunc] := by kernel_rfl
theorem tS85 : tS Try.prog 85 = some 5 := by kernel_rfl
theorem tA85 : tA Try.prog 85 = some true := by kernel_rfl
theorem tB85 : tB Try.prog 85 = some 56 := by kernel_rfl
theorem tZ85 : tZ Try.prog 85 = some [.int .i64 0, .int .i64 0, .int .i64 0, .int .i64 0, .slice none 0 0] := by kernel_rfl
theorem tF85_0 : tF Try.prog 85 0 = some (0, 26) := by kernel_rfl
theorem tF85_1 : tF Try.prog 85 1 = some (3, 3) := by kernel_rfl
theorem tF85_2 : tF Try.prog 85 2 = some (4, 45) := by kernel_rfl
theorem tP85 : tP Try.prog 85 = some [(0, 3), (3, 1), (4, 1)] := by kernel_rfl
theorem tS86 : tS Try.prog 86 = some 5 := by kernel_rfl
theorem tA86 : tA Try.prog 86 = some true := by kernel_rfl
theorem tB86 : tB Try.prog 86 = some 56 := by kernel_rfl
theorem tZ86 : tZ Try.prog 86 = some [.int .i64 0, .int .i64 0, .int .i64 0, .int .i64 0, .slice none 0 0] := by kernel_rfl
theorem tF86_0 : tF Try.prog 86 0 = some (0, 26) := by kernel_rfl
theorem tF86_1 : tF Try.prog 86 1 = some (3, 3) := by kernel_rfl
theorem tF86_2 : tF Try.prog 86 2 = some (4, 45) := by kernel_rfl
theorem tP86 : tP Try.prog 86 = some [(0, 3), (3, 1), (4, 1)] := by kernel_rfl
theorem tS87 : tS Try.prog 87 = some 1 := by kernel_rfl
theorem tA87 : tA Try.prog 87 = some false := by kernel_rfl
theorem tB87 : tB Try.prog 87 = some 8 := by kernel_rfl
theorem tZ87 : tZ Try.prog 87 = some [.nilFunc] := by kernel_rfl
theorem tS88 : tS Try.prog 88 = some 1 := by kernel_rfl
theorem tA88 : tA Try.prog 88 = some false := by kernel_rfl
theorem tB88 : tB Try.prog 88 = some 8 := by kernel_rfl
theorem tZ88 : tZ Try.prog 88 = some [.nilFunc] := by kernel_rfl
theorem tS89 : tS Try.prog 89 = some 1 := by kernel_rfl
theorem tA89 : tA Try.prog 89 = some false := by kernel_rfl
theorem tB89 : tB Try.prog 89 = some 8 := by kernel_rfl
theorem tZ89 : tZ Try.prog 89 = some [.nilFunc] := by kernel_rfl
theorem tS90 : tS Try.prog 90 = some 1 := by kernel_rfl
theorem tA90 : tA Try.prog 90 = some false := by kernel_rfl
theorem tB90 : tB Try.prog 90 = some 8 := by kernel_rfl
theorem tZ90 : tZ Try.prog 90 = some [.nilFunc] := by kernel_rfl
theorem tS91 : tS Try.prog 91 = some 1 := by kernel_rfl
theorem tA91 : tA Try.prog 91 = some false := by kernel_rfl
theorem tB91 : tB Try.prog 91 = some 8 := by kernel_rfl
theorem tZ91 : tZ Try.prog 91 = some [.nilFunc] := by kernel_rfl
theorem tS92 : tS Try.prog 92 = some 1 := by kernel_rfl
theorem tA92 : tA Try.prog 92 = some false := by kernel_rfl
theorem tB92 : tB Try.prog 92 = some 8 := by kernel_rfl
theorem tZ92 : tZ Try.prog 92 = some [.nilFunc] := by kernel_rfl
theorem tS93 : tS Try.prog 93 = some 1 := by kernel_rfl
theorem tA93 : tA Try.prog 93 = some false := by kernel_rfl
theorem tB93 : tB Try.prog 93 = some 8 := by kernel_rfl
theorem tZ93 : tZ Try.prog 93 = some [.nilFunc] := by kernel_rfl
theorem tS94 : tS Try.prog 94 = some 1 := by kernel_rfl
theorem tA94 : tA Try.prog 94 = some false := by kernel_rfl
theorem tB94 : tB Try.prog 94 = some 8 := by kernel_rfl
theorem tZ94 : tZ Try.prog 94 = some [.nilFunc] := by kernel_rfl
theorem tS95 : tS Try.prog 95 = some 1 := by kernel_rfl
theorem tA95 : tA Try.prog 95 = some false := by kernel_rfl
theorem tB95 : tB Try.prog 95 = some 8 := by kernel_rfl
theorem tZ95 : tZ Try.prog 95 = some [.nilFunc] := by kernel_rfl
theorem tS96 : tS Try.prog 96 = some 1 := by kernel_rfl
theorem tA96 : tA Try.prog 96 = some false := by kernel_rfl
theorem tB96 : tB Try.prog 96 = some 8 := by kernel_rfl
theorem tZ96 : tZ Try.prog 96 = some [.nilFunc] := by kernel_rfl
theorem tS97 : tS Try.prog 97 = some 1 := by kernel_rfl
theorem tA97 : tA Try.prog 97 = some false := by kernel_rfl
theorem tB97 : tB Try.prog 97 = some 8 := by kernel_rfl
theorem tZ97 : tZ Try.prog 97 = some [.nilFunc] := by kernel_rfl
theorem tS98 : tS Try.prog 98 = some 1 := by kernel_rfl
theorem tA98 : tA Try.prog 98 = some false := by kernel_rfl
theorem tB98 : tB Try.prog 98 = some 8 := by kernel_rfl
theorem tZ98 : tZ Try.prog 98 = some [.nilFunc] := by kernel_rfl
theorem tS99 : tS Try.prog 99 = some 1 := by kernel_rfl
theorem tA99 : tA Try.prog 99 = some false := by kernel_rfl
theorem tB99 : tB Try.prog 99 = some 8 := by kernel_rfl
theorem tZ99 : tZ Try.prog 99 = some [.nilFunc] := by kernel_rfl
theorem tS100 : tS Try.prog 100 = some 1 := by kernel_rfl
theorem tA100 : tA Try.prog 100 = some false := by kernel_rfl
theorem tB100 : tB Try.prog 100 = some 8 := by kernel_rfl
theorem tZ100 : tZ Try.prog 100 = some [.nilFunc] := by kernel_rfl
theorem tS101 : tS Try.prog 101 = some 1 := by kernel_rfl
theorem tA101 : tA Try.prog 101 = some false := by kernel_rfl
theorem tB101 : tB Try.prog 101 = some 8 := by kernel_rfl
theorem tZ101 : tZ Try.prog 101 = some [.nilFunc] := by kernel_rfl
theorem tS102 : tS Try.prog 102 = some 1 := by kernel_rfl
theorem tA102 : tA Try.prog 102 = some false := by kernel_rfl
theorem tB102 : tB Try.prog 102 = some 8 := by kernel_rfl
theorem tZ102 : tZ Try.prog 102 = some [.nilFunc] := by kernel_rfl
theorem tS103 : tS Try.prog 103 = some 1 := by kernel_rfl
theorem tA103 : tA Try.prog 103 = some false := by kernel_rfl
theorem tB103 : tB Try.prog 103 = some 8 := by kernel_rfl
theorem tZ103 : tZ Try.prog 103 = some [.nilFunc] := by kernel_rfl
theorem tS105 : tS Try.prog 105 = some 1 := by kernel_rfl
theorem tA105 : tA Try.prog 105 = some false := by kernel_rfl
theorem tB105 : tB Try.prog 105 = some 8 := by kernel_rfl
theorem tZ105 : tZ Try.prog 105 = some [.nilFunc] := by kernel_rfl
theorem tS106 : tS Try.prog 106 = some 1 := by kernel_rfl
theorem tA106 : tA Try.prog 106 = some false := by kernel_rfl
theorem tB106 : tB Try.prog 106 = some 8 := by kernel_rfl
theorem tZ106 : tZ Try.prog 106 = some [.nilFunc] := by kernel_rfl
theorem tS107 : tS Try.prog 107 = some 1 := by kernel_rfl
theorem tA107 : tA Try.prog 107 = some false := by kernel_rfl
theorem tB107 : tB Try.prog 107 = some 8 := by kernel_rfl
theorem tZ107 : tZ Try.prog 107 = some [.nilFunc] := by kernel_rfl
theorem tS108 : tS Try.prog 108 = some 1 := by kernel_rfl
theorem tA108 : tA Try.prog 108 = some false := by kernel_rfl
theorem tB108 : tB Try.prog 108 = some 8 := by kernel_rfl
theorem tZ108 : tZ Try.prog 108 = some [.pointer none] := by kernel_rfl
theorem tS109 : tS Try.prog 109 = some 1 := by kernel_rfl
theorem tA109 : tA Try.prog 109 = some false := by kernel_rfl
theorem tB109 : tB Try.prog 109 = some 8 := by kernel_rfl
theorem tZ109 : tZ Try.prog 109 = some [.map none] := by kernel_rfl
theorem tU109 : Try.prog.underlying 109 = some (.map 26 4) := by kernel_rfl
theorem tS110 : tS Try.prog 110 = some 1 := by kernel_rfl
theorem tA110 : tA Try.prog 110 = some false := by kernel_rfl
theorem tB110 : tB Try.prog 110 = some 8 := by kernel_rfl
theorem tZ110 : tZ Try.prog 110 = some [.nilFunc] := by kernel_rfl
theorem tS112 : tS Try.prog 112 = some 1 := by kernel_rfl
theorem tA112 : tA Try.prog 112 = some false := by kernel_rfl
theorem tB112 : tB Try.prog 112 = some 8 := by kernel_rfl
theorem tZ112 : tZ Try.prog 112 = some [.nilFunc] := by kernel_rfl
theorem tS113 : tS Try.prog 113 = some 1 := by kernel_rfl
theorem tA113 : tA Try.prog 113 = some false := by kernel_rfl
theorem tB113 : tB Try.prog 113 = some 8 := by kernel_rfl
theorem tZ113 : tZ Try.prog 113 = some [.nilFunc] := by kernel_rfl
theorem tS114 : tS Try.prog 114 = some 1 := by kernel_rfl
theorem tA114 : tA Try.prog 114 = some false := by kernel_rfl
theorem tB114 : tB Try.prog 114 = some 8 := by kernel_rfl
theorem tZ114 : tZ Try.prog 114 = some [.nilFunc] := by kernel_rfl
theorem tS115 : tS Try.prog 115 = some 1 := by kernel_rfl
theorem tA115 : tA Try.prog 115 = some false := by kernel_rfl
theorem tB115 : tB Try.prog 115 = some 8 := by kernel_rfl
theorem tZ115 : tZ Try.prog 115 = some [.nilFunc] := by kernel_rfl
theorem tS116 : tS Try.prog 116 = some 1 := by kernel_rfl
theorem tA116 : tA Try.prog 116 = some false := by kernel_rfl
theorem tB116 : tB Try.prog 116 = some 8 := by kernel_rfl
theorem tZ116 : tZ Try.prog 116 = some [.nilFunc] := by kernel_rfl
theorem tS117 : tS Try.prog 117 = some 1 := by kernel_rfl
theorem tA117 : tA Try.prog 117 = some false := by kernel_rfl
theorem tB117 : tB Try.prog 117 = some 8 := by kernel_rfl
theorem tZ117 : tZ Try.prog 117 = some [.nilFunc] := by kernel_rfl
theorem tS118 : tS Try.prog 118 = some 1 := by kernel_rfl
theorem tA118 : tA Try.prog 118 = some false := by kernel_rfl
theorem tB118 : tB Try.prog 118 = some 8 := by kernel_rfl
theorem tZ118 : tZ Try.prog 118 = some [.nilFunc] := by kernel_rfl
theorem tS119 : tS Try.prog 119 = some 1 := by kernel_rfl
theorem tA119 : tA Try.prog 119 = some false := by kernel_rfl
theorem tB119 : tB Try.prog 119 = some 8 := by kernel_rfl
theorem tZ119 : tZ Try.prog 119 = some [.nilFunc] := by kernel_rfl
theorem tS120 : tS Try.prog 120 = some 1 := by kernel_rfl
theorem tA120 : tA Try.prog 120 = some false := by kernel_rfl
theorem tB120 : tB Try.prog 120 = some 8 := by kernel_rfl
theorem tZ120 : tZ Try.prog 120 = some [.nilFunc] := by kernel_rfl
theorem tS121 : tS Try.prog 121 = some 1 := by kernel_rfl
theorem tA121 : tA Try.prog 121 = some false := by kernel_rfl
theorem tB121 : tB Try.prog 121 = some 8 := by kernel_rfl
theorem tZ121 : tZ Try.prog 121 = some [.nilFunc] := by kernel_rfl
theorem tS122 : tS Try.prog 122 = some 1 := by kernel_rfl
theorem tA122 : tA Try.prog 122 = some false := by kernel_rfl
theorem tB122 : tB Try.prog 122 = some 8 := by kernel_rfl
theorem tZ122 : tZ Try.prog 122 = some [.nilFunc] := by kernel_rfl
theorem tS123 : tS Try.prog 123 = some 1 := by kernel_rfl
theorem tA123 : tA Try.prog 123 = some false := by kernel_rfl
theorem tB123 : tB Try.prog 123 = some 8 := by kernel_rfl
theorem tZ123 : tZ Try.prog 123 = some [.nilFunc] := by kernel_rfl
theorem tS124 : tS Try.prog 124 = some 1 := by kernel_rfl
theorem tA124 : tA Try.prog 124 = some false := by kernel_rfl
theorem tB124 : tB Try.prog 124 = some 8 := by kernel_rfl
theorem tZ124 : tZ Try.prog 124 = some [.nilFunc] := by kernel_rfl
theorem tS125 : tS Try.prog 125 = some 1 := by kernel_rfl
theorem tA125 : tA Try.prog 125 = some false := by kernel_rfl
theorem tB125 : tB Try.prog 125 = some 8 := by kernel_rfl
theorem tZ125 : tZ Try.prog 125 = some [.nilFunc] := by kernel_rfl
theorem tS126 : tS Try.prog 126 = some 1 := by kernel_rfl
theorem tA126 : tA Try.prog 126 = some false := by kernel_rfl
theorem tB126 : tB Try.prog 126 = some 8 := by kernel_rfl
theorem tZ126 : tZ Try.prog 126 = some [.map none] := by kernel_rfl
theorem tU126 : Try.prog.underlying 126 = some (.map 3 125) := by kernel_rfl
theorem tS128 : tS Try.prog 128 = some 1 := by kernel_rfl
theorem tA128 : tA Try.prog 128 = some false := by kernel_rfl
theorem tB128 : tB Try.prog 128 = some 8 := by kernel_rfl
theorem tZ128 : tZ Try.prog 128 = some [.nilFunc] := by kernel_rfl
theorem tS129 : tS Try.prog 129 = some 1 := by kernel_rfl
theorem tA129 : tA Try.prog 129 = some false := by kernel_rfl
theorem tB129 : tB Try.prog 129 = some 8 := by kernel_rfl
theorem tZ129 : tZ Try.prog 129 = some [.nilFunc] := by kernel_rfl
theorem tS130 : tS Try.prog 130 = some 1 := by kernel_rfl
theorem tA130 : tA Try.prog 130 = some false := by kernel_rfl
theorem tB130 : tB Try.prog 130 = some 8 := by kernel_rfl
theorem tZ130 : tZ Try.prog 130 = some [.nilFunc] := by kernel_rfl
theorem tS131 : tS Try.prog 131 = some 1 := by kernel_rfl
theorem tA131 : tA Try.prog 131 = some false := by kernel_rfl
theorem tB131 : tB Try.prog 131 = some 8 := by kernel_rfl
theorem tZ131 : tZ Try.prog 131 = some [.nilFunc] := by kernel_rfl
theorem tS132 : tS Try.prog 132 = some 1 := by kernel_rfl
theorem tA132 : tA Try.prog 132 = some false := by kernel_rfl
theorem tB132 : tB Try.prog 132 = some 8 := by kernel_rfl
theorem tZ132 : tZ Try.prog 132 = some [.nilFunc] := by kernel_rfl
theorem tS133 : tS Try.prog 133 = some 1 := by kernel_rfl
theorem tA133 : tA Try.prog 133 = some false := by kernel_rfl
theorem tB133 : tB Try.prog 133 = some 8 := by kernel_rfl
theorem tZ133 : tZ Try.prog 133 = some [.nilFunc] := by kernel_rfl
theorem tS134 : tS Try.prog 134 = some 1 := by kernel_rfl
theorem tA134 : tA Try.prog 134 = some false := by kernel_rfl
theorem tB134 : tB Try.prog 134 = some 8 := by kernel_rfl
theorem tZ134 : tZ Try.prog 134 = some [.nilFunc] := by kernel_rfl
theorem tS135 : tS Try.prog 135 = some 1 := by kernel_rfl
theorem tA135 : tA Try.prog 135 = some false := by kernel_rfl
theorem tB135 : tB Try.prog 135 = some 8 := by kernel_rfl
theorem tZ135 : tZ Try.prog 135 = some [.nilFunc] := by kernel_rfl
theorem tS136 : tS Try.prog 136 = some 1 := by kernel_rfl
theorem tA136 : tA Try.prog 136 = some false := by kernel_rfl
theorem tB136 : tB Try.prog 136 = some 8 := by kernel_rfl
theorem tZ136 : tZ Try.prog 136 = some [.nilFunc] := by kernel_rfl
theorem tS137 : tS Try.prog 137 = some 1 := by kernel_rfl
theorem tA137 : tA Try.prog 137 = some false := by kernel_rfl
theorem tB137 : tB Try.prog 137 = some 8 := by kernel_rfl
theorem tZ137 : tZ Try.prog 137 = some [.nilFunc] := by kernel_rfl
theorem tS138 : tS Try.prog 138 = some 1 := by kernel_rfl
theorem tA138 : tA Try.prog 138 = some false := by kernel_rfl
theorem tB138 : tB Try.prog 138 = some 8 := by kernel_rfl
theorem tZ138 : tZ Try.prog 138 = some [.nilFunc] := by kernel_rfl
theorem tS139 : tS Try.prog 139 = some 1 := by kernel_rfl
theorem tA139 : tA Try.prog 139 = some false := by kernel_rfl
theorem tB139 : tB Try.prog 139 = some 8 := by kernel_rfl
theorem tZ139 : tZ Try.prog 139 = some [.nilFunc] := by kernel_rfl
theorem tS140 : tS Try.prog 140 = some 1 := by kernel_rfl
theorem tA140 : tA Try.prog 140 = some false := by kernel_rfl
theorem tB140 : tB Try.prog 140 = some 8 := by kernel_rfl
theorem tZ140 : tZ Try.prog 140 = some [.nilFunc] := by kernel_rfl
theorem tS141 : tS Try.prog 141 = some 4 := by kernel_rfl
theorem tA141 : tA Try.prog 141 = some true := by kernel_rfl
theorem tB141 : tB Try.prog 141 = some 40 := by kernel_rfl
theorem tZ141 : tZ Try.prog 141 = some [.pointer none, .pointer none, .pointer none, .string ⟨#[]⟩] := by kernel_rfl
theorem tF141_0 : tF Try.prog 141 0 = some (0, 17) := by kernel_rfl
theorem tF141_1 : tF Try.prog 141 1 = some (1, 17) := by kernel_rfl
theorem tF141_2 : tF Try.prog 141 2 = some (2, 17) := by kernel_rfl
theorem tF141_3 : tF Try.prog 141 3 = some (3, 9) := by kernel_rfl
theorem tP141 : tP Try.prog 141 = some [(0, 1), (1, 1), (2, 1), (3, 1)] := by kernel_rfl
theorem tS143 : tS Try.prog 143 = some 0 := by kernel_rfl
theorem tA143 : tA Try.prog 143 = some true := by kernel_rfl
theorem tB143 : tB Try.prog 143 = some 0 := by kernel_rfl
theorem tZ143 : tZ Try.prog 143 = some [] := by kernel_rfl
theorem tR143 : tR Try.prog 143 = some (0, 16) := by kernel_rfl
theorem tE143 : tE Try.prog 143 = none := by kernel_rfl
theorem tP143 : tP Try.prog 143 = none := by kernel_rfl
theorem tS144 : tS Try.prog 144 = some 0 := by kernel_rfl
theorem tA144 : tA Try.prog 144 = some true := by kernel_rfl
theorem tB144 : tB Try.prog 144 = some 0 := by kernel_rfl
theorem tZ144 : tZ Try.prog 144 = some [] := by kernel_rfl
theorem tF144_0 : tF Try.prog 144 0 = some (0, 143) := by kernel_rfl
theorem tP144 : tP Try.prog 144 = some [(0, 0)] := by kernel_rfl
theorem tS146 : tS Try.prog 146 = some 1 := by kernel_rfl
theorem tA146 : tA Try.prog 146 = some false := by kernel_rfl
theorem tB146 : tB Try.prog 146 = some 8 := by kernel_rfl
theorem tZ146 : tZ Try.prog 146 = some [.nilFunc] := by kernel_rfl
theorem tS147 : tS Try.prog 147 = some 1 := by kernel_rfl
theorem tA147 : tA Try.prog 147 = some false := by kernel_rfl
theorem tB147 : tB Try.prog 147 = some 4 := by kernel_rfl
theorem tZ147 : tZ Try.prog 147 = some [.int .u32 0] := by kernel_rfl
theorem tU147 : Try.prog.underlying 147 = some (.int .u32) := by kernel_rfl
theorem tS148 : tS Try.prog 148 = some 1 := by kernel_rfl
theorem tA148 : tA Try.prog 148 = some false := by kernel_rfl
theorem tB148 : tB Try.prog 148 = some 1 := by kernel_rfl
theorem tZ148 : tZ Try.prog 148 = some [.int .u8 0] := by kernel_rfl
theorem tU148 : Try.prog.underlying 148 = some (.int .u8) := by kernel_rfl
theorem tS149 : tS Try.prog 149 = some 1 := by kernel_rfl
theorem tA149 : tA Try.prog 149 = some false := by kernel_rfl
theorem tB149 : tB Try.prog 149 = some 1 := by kernel_rfl
theorem tZ149 : tZ Try.prog 149 = some [.int .u8 0] := by kernel_rfl
theorem tU149 : Try.prog.underlying 149 = some (.int .u8) := by kernel_rfl
theorem tS150 : tS Try.prog 150 = some 1 := by kernel_rfl
theorem tA150 : tA Try.prog 150 = some false := by kernel_rfl
theorem tB150 : tB Try.prog 150 = some 8 := by kernel_rfl
theorem tZ150 : tZ Try.prog 150 = some [.nilFunc] := by kernel_rfl
theorem tS151 : tS Try.prog 151 = some 1 := by kernel_rfl
theorem tA151 : tA Try.prog 151 = some false := by kernel_rfl
theorem tB151 : tB Try.prog 151 = some 8 := by kernel_rfl
theorem tZ151 : tZ Try.prog 151 = some [.pointer none] := by kernel_rfl
theorem tS152 : tS Try.prog 152 = some 1 := by kernel_rfl
theorem tA152 : tA Try.prog 152 = some false := by kernel_rfl
theorem tB152 : tB Try.prog 152 = some 4 := by kernel_rfl
theorem tZ152 : tZ Try.prog 152 = some [.int .i32 0] := by kernel_rfl
theorem tU152 : Try.prog.underlying 152 = some (.int .i32) := by kernel_rfl
theorem tS153 : tS Try.prog 153 = some 1 := by kernel_rfl
theorem tA153 : tA Try.prog 153 = some false := by kernel_rfl
theorem tB153 : tB Try.prog 153 = some 4 := by kernel_rfl
theorem tZ153 : tZ Try.prog 153 = some [.int .i32 0] := by kernel_rfl
theorem tU153 : Try.prog.underlying 153 = some (.int .i32) := by kernel_rfl
theorem tS154 : tS Try.prog 154 = some 11 := by kernel_rfl
theorem tA154 : tA Try.prog 154 = some true := by kernel_rfl
theorem tB154 : tB Try.prog 154 = some 48 := by kernel_rfl
theorem tZ154 : tZ Try.prog 154 = some [.int .u64 0, .int .u64 0, .int .u32 0, .int .u8 0, .int .u8 0, .int .u8 0, .int .u8 0, .nilFunc, .pointer none, .int .i32 0, .int .i32 0] := by kernel_rfl
theorem tF154_0 : tF Try.prog 154 0 = some (0, 12) := by kernel_rfl
theorem tF154_1 : tF Try.prog 154 1 = some (1, 12) := by kernel_rfl
theorem tF154_2 : tF Try.prog 154 2 = some (2, 147) := by kernel_rfl
theorem tF154_3 : tF Try.prog 154 3 = some (3, 148) := by kernel_rfl
theorem tF154_4 : tF Try.prog 154 4 = some (4, 5) := by kernel_rfl
theorem tF154_5 : tF Try.prog 154 5 = some (5, 5) := by kernel_rfl
theorem tF154_6 : tF Try.prog 154 6 = some (6, 149) := by kernel_rfl
theorem tF154_7 : tF Try.prog 154 7 = some (7, 150) := by kernel_rfl
theorem tF154_8 : tF Try.prog 154 8 = some (8, 151) := by kernel_rfl
theorem tF154_9 : tF Try.prog 154 9 = some (9, 152) := by kernel_rfl
theorem tF154_10 : tF Try.prog 154 10 = some (10, 153) := by kernel_rfl
theorem tP154 : tP Try.prog 154 = some [(0, 1), (1, 1), (2, 1), (3, 1), (4, 1), (5, 1), (6, 1), (7, 1), (8, 1), (9, 1), (10, 1)] := by kernel_rfl
theorem tS155 : tS Try.prog 155 = some 11 := by kernel_rfl
theorem tA155 : tA Try.prog 155 = some true := by kernel_rfl
theorem tB155 : tB Try.prog 155 = some 48 := by kernel_rfl
theorem tZ155 : tZ Try.prog 155 = some [.int .u64 0, .int .u64 0, .int .u32 0, .int .u8 0, .int .u8 0, .int .u8 0, .int .u8 0, .nilFunc, .pointer none, .int .i32 0, .int .i32 0] := by kernel_rfl
theorem tF155_0 : tF Try.prog 155 0 = some (0, 12) := by kernel_rfl
theorem tF155_1 : tF Try.prog 155 1 = some (1, 12) := by kernel_rfl
theorem tF155_2 : tF Try.prog 155 2 = some (2, 147) := by kernel_rfl
theorem tF155_3 : tF Try.prog 155 3 = some (3, 148) := by kernel_rfl
theorem tF155_4 : tF Try.prog 155 4 = some (4, 5) := by kernel_rfl
theorem tF155_5 : tF Try.prog 155 5 = some (5, 5) := by kernel_rfl
theorem tF155_6 : tF Try.prog 155 6 = some (6, 149) := by kernel_rfl
theorem tF155_7 : tF Try.prog 155 7 = some (7, 150) := by kernel_rfl
theorem tF155_8 : tF Try.prog 155 8 = some (8, 151) := by kernel_rfl
theorem tF155_9 : tF Try.prog 155 9 = some (9, 152) := by kernel_rfl
theorem tF155_10 : tF Try.prog 155 10 = some (10, 153) := by kernel_rfl
theorem tP155 : tP Try.prog 155 = some [(0, 1), (1, 1), (2, 1), (3, 1), (4, 1), (5, 1), (6, 1), (7, 1), (8, 1), (9, 1), (10, 1)] := by kernel_rfl
theorem tS156 : tS Try.prog 156 = some 1 := by kernel_rfl
theorem tA156 : tA Try.prog 156 = some false := by kernel_rfl
theorem tB156 : tB Try.prog 156 = some 8 := by kernel_rfl
theorem tZ156 : tZ Try.prog 156 = some [.pointer none] := by kernel_rfl
set_option maxHeartbeats 1000000 in
theorem eqT26 (a0 b0 a1 b1 a2 b2 : Int) (w : World) : (Op.equalIn 10000 26 (.agg #[.int .i64 a0, .int .i64 a1, .int .i64 a2]) (.agg #[.int .i64 b0, .int .i64 b1, .int .i64 b2])).run Try.prog w = .ok ((decide (a0 = b0) && (decide (a1 = b1) && decide (a2 = b2)))) w := by
  simp [go_sem, Try.underlying3, Try.underlying26]
  (repeat' split) <;> simp_all
set_option maxHeartbeats 1000000 in
theorem eqT36 (a0 b0 a1 b1 a2 b2 : Int) (w : World) : (Op.equalIn 10000 36 (.agg #[.int .i64 a0, .int .i64 a1, .int .i64 a2]) (.agg #[.int .i64 b0, .int .i64 b1, .int .i64 b2])).run Try.prog w = .ok ((decide (a0 = b0) && (decide (a1 = b1) && decide (a2 = b2)))) w := by
  simp [go_sem, Try.underlying2, Try.underlying3, Try.underlying36]
  (repeat' split) <;> simp_all
set_option maxHeartbeats 1000000 in
theorem eqT61 (a0 b0 a1 b1 a2 b2 a3 b3 a4 b4 a5 b5 a6 b6 : Int) (w : World) : (Op.equalIn 10000 61 (.agg #[.int .i64 a0, .int .i64 a1, .int .i64 a2, .int .i64 a3, .int .i64 a4, .int .i64 a5, .int .i64 a6]) (.agg #[.int .i64 b0, .int .i64 b1, .int .i64 b2, .int .i64 b3, .int .i64 b4, .int .i64 b5, .int .i64 b6])).run Try.prog w = .ok ((decide (a0 = b0) && (decide (a1 = b1) && (decide (a2 = b2) && (decide (a3 = b3) && (decide (a4 = b4) && (decide (a5 = b5) && decide (a6 = b6)))))))) w := by
  simp [go_sem, Try.underlying2, Try.underlying3, Try.underlying26, Try.underlying36, Try.underlying61]
  (repeat' split) <;> simp_all
def eqTab : TypeId → List Value → List Value → Option Bool
  | 26, [.int .i64 a0, .int .i64 a1, .int .i64 a2], [.int .i64 b0, .int .i64 b1, .int .i64 b2] => some ((decide (a0 = b0) && (decide (a1 = b1) && decide (a2 = b2))))
  | 36, [.int .i64 a0, .int .i64 a1, .int .i64 a2], [.int .i64 b0, .int .i64 b1, .int .i64 b2] => some ((decide (a0 = b0) && (decide (a1 = b1) && decide (a2 = b2))))
  | 61, [.int .i64 a0, .int .i64 a1, .int .i64 a2, .int .i64 a3, .int .i64 a4, .int .i64 a5, .int .i64 a6], [.int .i64 b0, .int .i64 b1, .int .i64 b2, .int .i64 b3, .int .i64 b4, .int .i64 b5, .int .i64 b6] => some ((decide (a0 = b0) && (decide (a1 = b1) && (decide (a2 = b2) && (decide (a3 = b3) && (decide (a4 = b4) && (decide (a5 = b5) && decide (a6 = b6))))))))
  | _, _, _ => none
theorem eqTab_ok : ∀ t us vs b, eqTab t us vs = some b → Try.prog.eqGuardType Try.prog.depth t = false ∧ ∀ w : World, (Op.equalIn 10000 t (.agg us.toArray) (.agg vs.toArray)).run Try.prog w = .ok b w := by
  intro t us vs b h
  unfold eqTab at h
  split at h
  · cases h; exact ⟨by kernel_rfl, fun w => eqT26 _ _ _ _ _ _ w⟩
  · cases h; exact ⟨by kernel_rfl, fun w => eqT36 _ _ _ _ _ _ w⟩
  · cases h; exact ⟨by kernel_rfl, fun w => eqT61 _ _ _ _ _ _ _ _ _ _ _ _ _ _ w⟩
  · cases h
theorem mixed : Try.prog.follows .mixedOrders = true := by kernel_rfl
/-- what is known of the program at the outset -/
def E0 : Env Try.prog := ⟨eqTab, eqTab_ok, fun _ _ => none, by simp⟩
def cl0 : FuncId → List AV → Option AV := fun _ _ => none
attribute [push_cast] tS1 tA1 tB1 tZ1 tS2 tA2 tB2 tZ2 tU2 tS3 tA3 tB3 tZ3 tU3 tS4 tA4 tB4 tZ4 tU4 tS5 tA5 tB5 tZ5 tU5 tS6 tA6 tB6 tZ6 tU6 tS7 tA7 tB7 tZ7 tF7_0 tF7_1 tF7_2 tF7_3 tP7 tS9 tA9 tB9 tZ9 tU9 tS12 tA12 tB12 tZ12 tU12 tS13 tA13 tB13 tZ13 tF13_0 tF13_1 tP13 tS15 tA15 tB15 tZ15 tS16 tA16 tB16 tZ16 tS17 tA17 tB17 tZ17 tS18 tA18 tB18 tZ18 tF18_0 tP18 tS19 tA19 tB19 tZ19 tF19_0 tP19 tS21 tA21 tB21 tZ21 tU21 tS22 tA22 tB22 tZ22 tE22 tR22 tU22 tS23 tA23 tB23 tZ23 tS24 tA24 tB24 tZ24 tS25 tA25 tB25 tZ25 tF25_0 tF25_1 tF25_2 tP25 tS26 tA26 tB26 tZ26 tF26_0 tF26_1 tF26_2 tP26 tS27 tA27 tB27 tZ27 tU27 tS28 tA28 tB28 tZ28 tS29 tA29 tB29 tZ29 tS30 tA30 tB30 tZ30 tS31 tA31 tB31 tZ31 tS32 tA32 tB32 tZ32 tS33 tA33 tB33 tZ33 tF33_0 tF33_1 tF33_2 tF33_3 tF33_4 tP33 tS34 tA34 tB34 tZ34 tF34_0 tF34_1 tF34_2 tF34_3 tF34_4 tP34 tS35 tA35 tB35 tZ35 tF35_0 tF35_1 tF35_2 tP35 tS36 tA36 tB36 tZ36 tF36_0 tF36_1 tF36_2 tP36 tS37 tA37 tB37 tZ37 tS38 tA38 tB38 tZ38 tE38 tR38 tU38 tS40 tA40 tB40 tZ40 tS41 tA41 tB41 tZ41 tS42 tA42 tB42 tZ42 tS43 tA43 tB43 tZ43 tS44 tA44 tB44 tZ44 tE44 tR44 tU44 tS45 tA45 tB45 tZ45 tE45 tR45 tU45 tS46 tA46 tB46 tZ46 tF46_0 tF46_1 tF46_2 tP46 tS47 tA47 tB47 tZ47 tF47_0 tF47_1 tF47_2 tP47 tS48 tA48 tB48 tZ48 tE48 tR48 tU48 tS49 tA49 tB49 tZ49 tS50 tA50 tB50 tZ50 tF50_0 tF50_1 tF50_2 tF50_3 tP50 tS51 tA51 tB51 tZ51 tF51_0 tF51_1 tF51_2 tF51_3 tP51 tS53 tA53 tB53 tZ53 tS54 tA54 tB54 tZ54 tS55 tA55 tB55 tZ55 tS56 tA56 tB56 tZ56 tS57 tA57 tB57 tZ57 tS59 tA59 tB59 tZ59 tS60 tA60 tB60 tZ60 tF60_0 tF60_1 tF60_2 tP60 tS61 tA61 tB61 tZ61 tF61_0 tF61_1 tF61_2 tP61 tS63 tA63 tB63 tZ63 tS64 tA64 tB64 tZ64 tS65 tA65 tB65 tZ65 tE65 tR65 tU65 tS66 tA66 tB66 tZ66 tU66 tS67 tA67 tB67 tZ67 tS69 tA69 tB69 tZ69 tS70 tA70 tB70 tZ70 tE70 tR70 tU70 tS71 tA71 tB71 tZ71 tS72 tA72 tB72 tZ72 tS73 tA73 tB73 tZ73 tS74 tA74 tB74 tZ74 tS76 tA76 tB76 tZ76 tS77 tA77 tB77 tZ77 tU77 tS78 tA78 tB78 tZ78 tS79 tA79 tB79 tZ79 tS80 tA80 tB80 tZ80 tS81 tA81 tB81 tZ81 tS82 tA82 tB82 tZ82 tS83 tA83 tB83 tZ83 tS84 tA84 tB84 tZ84 tS85 tA85 tB85 tZ85 tF85_0 tF85_1 tF85_2 tP85 tS86 tA86 tB86 tZ86 tF86_0 tF86_1 tF86_2 tP86 tS87 tA87 tB87 tZ87 tS88 tA88 tB88 tZ88 tS89 tA89 tB89 tZ89 tS90 tA90 tB90 tZ90 tS91 tA91 tB91 tZ91 tS92 tA92 tB92 tZ92 tS93 tA93 tB93 tZ93 tS94 tA94 tB94 tZ94 tS95 tA95 tB95 tZ95 tS96 tA96 tB96 tZ96 tS97 tA97 tB97 tZ97 tS98 tA98 tB98 tZ98 tS99 tA99 tB99 tZ99 tS100 tA100 tB100 tZ100 tS101 tA101 tB101 tZ101 tS102 tA102 tB102 tZ102 tS103 tA103 tB103 tZ103 tS105 tA105 tB105 tZ105 tS106 tA106 tB106 tZ106 tS107 tA107 tB107 tZ107 tS108 tA108 tB108 tZ108 tS109 tA109 tB109 tZ109 tU109 tS110 tA110 tB110 tZ110 tS112 tA112 tB112 tZ112 tS113 tA113 tB113 tZ113 tS114 tA114 tB114 tZ114 tS115 tA115 tB115 tZ115 tS116 tA116 tB116 tZ116 tS117 tA117 tB117 tZ117 tS118 tA118 tB118 tZ118 tS119 tA119 tB119 tZ119 tS120 tA120 tB120 tZ120 tS121 tA121 tB121 tZ121 tS122 tA122 tB122 tZ122 tS123 tA123 tB123 tZ123 tS124 tA124 tB124 tZ124 tS125 tA125 tB125 tZ125 tS126 tA126 tB126 tZ126 tU126 tS128 tA128 tB128 tZ128 tS129 tA129 tB129 tZ129 tS130 tA130 tB130 tZ130 tS131 tA131 tB131 tZ131 tS132 tA132 tB132 tZ132 tS133 tA133 tB133 tZ133 tS134 tA134 tB134 tZ134 tS135 tA135 tB135 tZ135 tS136 tA136 tB136 tZ136 tS137 tA137 tB137 tZ137 tS138 tA138 tB138 tZ138 tS139 tA139 tB139 tZ139 tS140 tA140 tB140 tZ140 tS141 tA141 tB141 tZ141 tF141_0 tF141_1 tF141_2 tF141_3 tP141 tS143 tA143 tB143 tZ143 tR143 tE143 tP143 tS144 tA144 tB144 tZ144 tF144_0 tP144 tS146 tA146 tB146 tZ146 tS147 tA147 tB147 tZ147 tU147 tS148 tA148 tB148 tZ148 tU148 tS149 tA149 tB149 tZ149 tU149 tS150 tA150 tB150 tZ150 tS151 tA151 tB151 tZ151 tS152 tA152 tB152 tZ152 tU152 tS153 tA153 tB153 tZ153 tU153 tS154 tA154 tB154 tZ154 tF154_0 tF154_1 tF154_2 tF154_3 tF154_4 tF154_5 tF154_6 tF154_7 tF154_8 tF154_9 tF154_10 tP154 tS155 tA155 tB155 tZ155 tF155_0 tF155_1 tF155_2 tF155_3 tF155_4 tF155_5 tF155_6 tF155_7 tF155_8 tF155_9 tF155_10 tP155 tS156 tA156 tB156 tZ156 eqTab
theorem E0_cl : E0.cl = cl0 := rfl
theorem E0_eq : E0.eq = eqTab := rfl
attribute [push_cast] E0_cl E0_eq cl0
end Go.Proofs.Ytdeckjoeggmagaa
