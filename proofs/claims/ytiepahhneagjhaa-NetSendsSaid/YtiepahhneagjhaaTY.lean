/- Facts on the types of the program. -/
import Derived.Test.YtiepahhneagjhaaProg
import Derived.Test.YtiepahhneagjhaaMC
namespace Go.Proofs.Ytiepahhneagjhaa
set_option linter.unusedVariables false

theorem tS1 : tS Try.prog 1 = some 1 := by kernel_rfl
theorem tA1 : tA Try.prog 1 = some false := by kernel_rfl
theorem tB1 : tB Try.prog 1 = some 8 := by kernel_rfl
theorem tZ1 : tZ Try.prog 1 = some [.nilFunc] := by kernel_rfl
theorem tS2 : tS Try.prog 2 = some 1 := by kernel_rfl
theorem tA2 : tA Try.prog 2 = some false := by kernel_rfl
theorem tB2 : tB Try.prog 2 = some 8 := by kernel_rfl
theorem tZ2 : tZ Try.prog 2 = some [.int .i64 0] := by kernel_rfl
theorem tU2 : Try.prog.underlying 2 = some (.int .i64) := by kernel_rfl
theorem tS3 : tS Try.prog 3 = some 1 := by kernel_rfl
theorem tA3 : tA Try.prog 3 = some false := by kernel_rfl
theorem tB3 : tB Try.prog 3 = some 8 := by kernel_rfl
theorem tZ3 : tZ Try.prog 3 = some [.int .i64 0] := by kernel_rfl
theorem tU3 : Try.prog.underlying 3 = some (.int .i64) := by kernel_rfl
theorem tS4 : tS Try.prog 4 = some 1 := by kernel_rfl
theorem tA4 : tA Try.prog 4 = some false := by kernel_rfl
theorem tB4 : tB Try.prog 4 = some 1 := by kernel_rfl
theorem tZ4 : tZ Try.prog 4 = some [.bool false] := by kernel_rfl
theorem tU4 : Try.prog.underlying 4 = some .bool := by kernel_rfl
theorem tS5 : tS Try.prog 5 = some 1 := by kernel_rfl
theorem tA5 : tA Try.prog 5 = some false := by kernel_rfl
theorem tB5 : tB Try.prog 5 = some 1 := by kernel_rfl
theorem tZ5 : tZ Try.prog 5 = some [.int .u8 0] := by kernel_rfl
theorem tU5 : Try.prog.underlying 5 = some (.int .u8) := by kernel_rfl
theorem tS6 : tS Try.prog 6 = some 1 := by kernel_rfl
theorem tA6 : tA Try.prog 6 = some false := by kernel_rfl
theorem tB6 : tB Try.prog 6 = some 1 := by kernel_rfl
theorem tZ6 : tZ Try.prog 6 = some [.int .u8 0] := by kernel_rfl
theorem tU6 : Try.prog.underlying 6 = some (.int .u8) := by kernel_rfl
theorem tS7 : tS Try.prog 7 = some 4 := by kernel_rfl
theorem tA7 : tA Try.prog 7 = some true := by kernel_rfl
theorem tB7 : tB Try.prog 7 = some 24 := by kernel_rfl
theorem tZ7 : tZ Try.prog 7 = some [.int .i64 0, .int .i64 0, .bool false, .int .u8 0] := by kernel_rfl
theorem tF7_0 : tF Try.prog 7 0 = some (0, 2) := by kernel_rfl
theorem tF7_1 : tF Try.prog 7 1 = some (1, 3) := by kernel_rfl
theorem tF7_2 : tF Try.prog 7 2 = some (2, 4) := by kernel_rfl
theorem tF7_3 : tF Try.prog 7 3 = some (3, 6) := by kernel_rfl
theorem tP7 : tP Try.prog 7 = some [(0, 1), (1, 1), (2, 1), (3, 1)] := by kernel_rfl
theorem tS9 : tS Try.prog 9 = some 1 := by kernel_rfl
theorem tA9 : tA Try.prog 9 = some false := by kernel_rfl
theorem tB9 : tB Try.prog 9 = some 16 := by kernel_rfl
theorem tZ9 : tZ Try.prog 9 = some [.string ⟨#[]⟩] := by kernel_rfl
theorem tU9 : Try.prog.underlying 9 = some .string := by kernel_rfl
theorem tS12 : tS Try.prog 12 = some 1 := by kernel_rfl
theorem tA12 : tA Try.prog 12 = some false := by kernel_rfl
theorem tB12 : tB Try.prog 12 = some 8 := by kernel_rfl
theorem tZ12 : tZ Try.prog 12 = some [.int .u64 0] := by kernel_rfl
theorem tU12 : Try.prog.underlying 12 = some (.int .u64) := by kernel_rfl
theorem tS13 : tS Try.prog 13 = some 2 := by kernel_rfl
theorem tA13 : tA Try.prog 13 = some true := by kernel_rfl
theorem tB13 : tB Try.prog 13 = some 24 := by kernel_rfl
theorem tZ13 : tZ Try.prog 13 = some [.string ⟨#[]⟩, .int .u64 0] := by kernel_rfl
theorem tF13_0 : tF Try.prog 13 0 = some (0, 9) := by kernel_rfl
theorem tF13_1 : tF Try.prog 13 1 = some (1, 12) := by kernel_rfl
theorem tP13 : tP Try.prog 13 = some [(0, 1), (1, 1)] := by kernel_rfl
theorem tS15 : tS Try.prog 15 = some 1 := by kernel_rfl
theorem tA15 : tA Try.prog 15 = some false := by kernel_rfl
theorem tB15 : tB Try.prog 15 = some 8 := by kernel_rfl
theorem tZ15 : tZ Try.prog 15 = some [.pointer none] := by kernel_rfl
theorem tS16 : tS Try.prog 16 = some 1 := by kernel_rfl
theorem tA16 : tA Try.prog 16 = some false := by kernel_rfl
theorem tB16 : tB Try.prog 16 = some 8 := by kernel_rfl
theorem tZ16 : tZ Try.prog 16 = some [.pointer none] := by kernel_rfl
theorem tS17 : tS Try.prog 17 = some 1 := by kernel_rfl
theorem tA17 : tA Try.prog 17 = some false := by kernel_rfl
theorem tB17 : tB Try.prog 17 = some 8 := by kernel_rfl
theorem tZ17 : tZ Try.prog 17 = some [.pointer none] := by kernel_rfl
theorem tS18 : tS Try.prog 18 = some 1 := by kernel_rfl
theorem tA18 : tA Try.prog 18 = some true := by kernel_rfl
theorem tB18 : tB Try.prog 18 = some 8 := by kernel_rfl
theorem tZ18 : tZ Try.prog 18 = some [.pointer none] := by kernel_rfl
theorem tF18_0 : tF Try.prog 18 0 = some (0, 17) := by kernel_rfl
theorem tP18 : tP Try.prog 18 = some [(0, 1)] := by kernel_rfl
theorem tS19 : tS Try.prog 19 = some 1 := by kernel_rfl
theorem tA19 : tA Try.prog 19 = some true := by kernel_rfl
theorem tB19 : tB Try.prog 19 = some 8 := by kernel_rfl
theorem tZ19 : tZ Try.prog 19 = some [.pointer none] := by kernel_rfl
theorem tF19_0 : tF Try.prog 19 0 = some (0, 17) := by kernel_rfl
theorem tP19 : tP Try.prog 19 = some [(0, 1)] := by kernel_rfl
theorem tS21 : tS Try.prog 21 = some 1 := by kernel_rfl
theorem tA21 : tA Try.prog 21 = some false := by kernel_rfl
theorem tB21 : tB Try.prog 21 = some 4 := by kernel_rfl
theorem tZ21 : tZ Try.prog 21 = some [.int .i32 0] := by kernel_rfl
theorem tU21 : Try.prog.underlying 21 = some (.int .i32) := by kernel_rfl
theorem tS22 : tS Try.prog 22 = some 1 := by kernel_rfl
theorem tA22 : tA Try.prog 22 = some false := by kernel_rfl
theorem tB22 : tB Try.prog 22 = some 8 := by kernel_rfl
theorem tZ22 : tZ Try.prog 22 = some [.int .u64 0] := by kernel_rfl
theorem tU22 : Try.prog.underlying 22 = some (.int .u64) := by kernel_rfl
theorem tS23 : tS Try.prog 23 = some 1 := by kernel_rfl
theorem tA23 : tA Try.prog 23 = some false := by kernel_rfl
theorem tB23 : tB Try.prog 23 = some 24 := by kernel_rfl
theorem tZ23 : tZ Try.prog 23 = some [.slice none 0 0] := by kernel_rfl
theorem tE23 : tE Try.prog 23 = some 34 := by kernel_rfl
theorem tR23 : tR Try.prog 23 = none := by kernel_rfl
theorem tU23 : Try.prog.underlying 23 = some (.slice 34) := by kernel_rfl
theorem tS24 : tS Try.prog 24 = some 2 := by kernel_rfl
theorem tA24 : tA Try.prog 24 = some true := by kernel_rfl
theorem tB24 : tB Try.prog 24 = some 32 := by kernel_rfl
theorem tZ24 : tZ Try.prog 24 = some [.int .u64 0, .slice none 0 0] := by kernel_rfl
theorem tF24_0 : tF Try.prog 24 0 = some (0, 22) := by kernel_rfl
theorem tF24_1 : tF Try.prog 24 1 = some (1, 23) := by kernel_rfl
theorem tP24 : tP Try.prog 24 = some [(0, 1), (1, 1)] := by kernel_rfl
theorem tS25 : tS Try.prog 25 = some 2 := by kernel_rfl
theorem tA25 : tA Try.prog 25 = some true := by kernel_rfl
theorem tB25 : tB Try.prog 25 = some 32 := by kernel_rfl
theorem tZ25 : tZ Try.prog 25 = some [.int .u64 0, .slice none 0 0] := by kernel_rfl
theorem tF25_0 : tF Try.prog 25 0 = some (0, 22) := by kernel_rfl
theorem tF25_1 : tF Try.prog 25 1 = some (1, 23) := by kernel_rfl
theorem tP25 : tP Try.prog 25 = some [(0, 1), (1, 1)] := by kernel_rfl
theorem tS26 : tS Try.prog 26 = some 1 := by kernel_rfl
theorem tA26 : tA Try.prog 26 = some false := by kernel_rfl
theorem tB26 : tB Try.prog 26 = some 8 := by kernel_rfl
theorem tZ26 : tZ Try.prog 26 = some [.nilFunc] := by kernel_rfl
theorem tS27 : tS Try.prog 27 = some 1 := by kernel_rfl
theorem tA27 : tA Try.prog 27 = some false := by kernel_rfl
theorem tB27 : tB Try.prog 27 = some 8 := by kernel_rfl
theorem tZ27 : tZ Try.prog 27 = some [.nilFunc] := by kernel_rfl
theorem tS28 : tS Try.prog 28 = some 1 := by kernel_rfl
theorem tA28 : tA Try.prog 28 = some false := by kernel_rfl
theorem tB28 : tB Try.prog 28 = some 8 := by kernel_rfl
theorem tZ28 : tZ Try.prog 28 = some [.int .i64 0] := by kernel_rfl
theorem tU28 : Try.prog.underlying 28 = some (.int .i64) := by kernel_rfl
theorem tS29 : tS Try.prog 29 = some 1 := by kernel_rfl
theorem tA29 : tA Try.prog 29 = some false := by kernel_rfl
theorem tB29 : tB Try.prog 29 = some 8 := by kernel_rfl
theorem tZ29 : tZ Try.prog 29 = some [.nilFunc] := by kernel_rfl
theorem tS30 : tS Try.prog 30 = some 1 := by kernel_rfl
theorem tA30 : tA Try.prog 30 = some false := by kernel_rfl
theorem tB30 : tB Try.prog 30 = some 24 := by kernel_rfl
theorem tZ30 : tZ Try.prog 30 = some [.slice none 0 0] := by kernel_rfl
theorem tE30 : tE Try.prog 30 = some 22 := by kernel_rfl
theorem tR30 : tR Try.prog 30 = none := by kernel_rfl
theorem tU30 : Try.prog.underlying 30 = some (.slice 22) := by kernel_rfl
theorem tS31 : tS Try.prog 31 = some 1 := by kernel_rfl
theorem tA31 : tA Try.prog 31 = some false := by kernel_rfl
theorem tB31 : tB Try.prog 31 = some 8 := by kernel_rfl
theorem tZ31 : tZ Try.prog 31 = some [.nilFunc] := by kernel_rfl
theorem tS32 : tS Try.prog 32 = some 1 := by kernel_rfl
theorem tA32 : tA Try.prog 32 = some false := by kernel_rfl
theorem tB32 : tB Try.prog 32 = some 24 := by kernel_rfl
theorem tZ32 : tZ Try.prog 32 = some [.slice none 0 0] := by kernel_rfl
theorem tE32 : tE Try.prog 32 = some 5 := by kernel_rfl
theorem tR32 : tR Try.prog 32 = none := by kernel_rfl
theorem tU32 : Try.prog.underlying 32 = some (.slice 5) := by kernel_rfl
theorem tS33 : tS Try.prog 33 = some 4 := by kernel_rfl
theorem tA33 : tA Try.prog 33 = some true := by kernel_rfl
theorem tB33 : tB Try.prog 33 = some 48 := by kernel_rfl
theorem tZ33 : tZ Try.prog 33 = some [.int .u64 0, .int .i64 0, .int .i64 0, .slice none 0 0] := by kernel_rfl
theorem tF33_0 : tF Try.prog 33 0 = some (0, 22) := by kernel_rfl
theorem tF33_1 : tF Try.prog 33 1 = some (1, 3) := by kernel_rfl
theorem tF33_2 : tF Try.prog 33 2 = some (2, 3) := by kernel_rfl
theorem tF33_3 : tF Try.prog 33 3 = some (3, 32) := by kernel_rfl
theorem tP33 : tP Try.prog 33 = some [(0, 1), (1, 1), (2, 1), (3, 1)] := by kernel_rfl
theorem tS34 : tS Try.prog 34 = some 4 := by kernel_rfl
theorem tA34 : tA Try.prog 34 = some true := by kernel_rfl
theorem tB34 : tB Try.prog 34 = some 48 := by kernel_rfl
theorem tZ34 : tZ Try.prog 34 = some [.int .u64 0, .int .i64 0, .int .i64 0, .slice none 0 0] := by kernel_rfl
theorem tF34_0 : tF Try.prog 34 0 = some (0, 22) := by kernel_rfl
theorem tF34_1 : tF Try.prog 34 1 = some (1, 3) := by kernel_rfl
theorem tF34_2 : tF Try.prog 34 2 = some (2, 3) := by kernel_rfl
theorem tF34_3 : tF Try.prog 34 3 = some (3, 32) := by kernel_rfl
theorem tP34 : tP Try.prog 34 = some [(0, 1), (1, 1), (2, 1), (3, 1)] := by kernel_rfl
theorem tS36 : tS Try.prog 36 = some 1 := by kernel_rfl
theorem tA36 : tA Try.prog 36 = some false := by kernel_rfl
theorem tB36 : tB Try.prog 36 = some 8 := by kernel_rfl
theorem tZ36 : tZ Try.prog 36 = some [.nilFunc] := by kernel_rfl
theorem tS38 : tS Try.prog 38 = some 1 := by kernel_rfl
theorem tA38 : tA Try.prog 38 = some false := by kernel_rfl
theorem tB38 : tB Try.prog 38 = some 8 := by kernel_rfl
theorem tZ38 : tZ Try.prog 38 = some [.nilFunc] := by kernel_rfl
theorem tS39 : tS Try.prog 39 = some 1 := by kernel_rfl
theorem tA39 : tA Try.prog 39 = some false := by kernel_rfl
theorem tB39 : tB Try.prog 39 = some 8 := by kernel_rfl
theorem tZ39 : tZ Try.prog 39 = some [.nilFunc] := by kernel_rfl
theorem tS40 : tS Try.prog 40 = some 1 := by kernel_rfl
theorem tA40 : tA Try.prog 40 = some false := by kernel_rfl
theorem tB40 : tB Try.prog 40 = some 24 := by kernel_rfl
theorem tZ40 : tZ Try.prog 40 = some [.slice none 0 0] := by kernel_rfl
theorem tE40 : tE Try.prog 40 = some 44 := by kernel_rfl
theorem tR40 : tR Try.prog 40 = none := by kernel_rfl
theorem tU40 : Try.prog.underlying 40 = some (.slice 44) := by kernel_rfl
theorem tS41 : tS Try.prog 41 = some 1 := by kernel_rfl
theorem tA41 : tA Try.prog 41 = some false := by kernel_rfl
theorem tB41 : tB Try.prog 41 = some 8 := by kernel_rfl
theorem tZ41 : tZ Try.prog 41 = some [.map none] := by kernel_rfl
theorem tU41 : Try.prog.underlying 41 = some (.map 22 44) := by kernel_rfl
theorem tS42 : tS Try.prog 42 = some 1 := by kernel_rfl
theorem tA42 : tA Try.prog 42 = some false := by kernel_rfl
theorem tB42 : tB Try.prog 42 = some 8 := by kernel_rfl
theorem tZ42 : tZ Try.prog 42 = some [.map none] := by kernel_rfl
theorem tU42 : Try.prog.underlying 42 = some (.map 22 4) := by kernel_rfl
theorem tS43 : tS Try.prog 43 = some 7 := by kernel_rfl
theorem tA43 : tA Try.prog 43 = some true := by kernel_rfl
theorem tB43 : tB Try.prog 43 = some 64 := by kernel_rfl
theorem tZ43 : tZ Try.prog 43 = some [.int .i64 0, .int .i64 0, .int .i64 0, .int .i64 0, .bool false, .bool false, .slice none 0 0] := by kernel_rfl
theorem tF43_0 : tF Try.prog 43 0 = some (0, 3) := by kernel_rfl
theorem tF43_1 : tF Try.prog 43 1 = some (1, 3) := by kernel_rfl
theorem tF43_2 : tF Try.prog 43 2 = some (2, 3) := by kernel_rfl
theorem tF43_3 : tF Try.prog 43 3 = some (3, 3) := by kernel_rfl
theorem tF43_4 : tF Try.prog 43 4 = some (4, 4) := by kernel_rfl
theorem tF43_5 : tF Try.prog 43 5 = some (5, 4) := by kernel_rfl
theorem tF43_6 : tF Try.prog 43 6 = some (6, 32) := by kernel_rfl
theorem tP43 : tP Try.prog 43 = some [(0, 1), (1, 1), (2, 1), (3, 1), (4, 1), (5, 1), (6, 1)] := by kernel_rfl
theorem tS44 : tS Try.prog 44 = some 7 := by kernel_rfl
theorem tA44 : tA Try.prog 44 = some true := by kernel_rfl
theorem tB44 : tB Try.prog 44 = some 64 := by kernel_rfl
theorem tZ44 : tZ Try.prog 44 = some [.int .i64 0, .int .i64 0, .int .i64 0, .int .i64 0, .bool false, .bool false, .slice none 0 0] := by kernel_rfl
theorem tF44_0 : tF Try.prog 44 0 = some (0, 3) := by kernel_rfl
theorem tF44_1 : tF Try.prog 44 1 = some (1, 3) := by kernel_rfl
theorem tF44_2 : tF Try.prog 44 2 = some (2, 3) := by kernel_rfl
theorem tF44_3 : tF Try.prog 44 3 = some (3, 3) := by kernel_rfl
theorem tF44_4 : tF Try.prog 44 4 = some (4, 4) := by kernel_rfl
theorem tF44_5 : tF Try.prog 44 5 = some (5, 4) := by kernel_rfl
theorem tF44_6 : tF Try.prog 44 6 = some (6, 32) := by kernel_rfl
theorem tP44 : tP Try.prog 44 = some [(0, 1), (1, 1), (2, 1), (3, 1), (4, 1), (5, 1), (6, 1)] := by kernel_rfl
theorem tS45 : tS Try.prog 45 = some 1 := by kernel_rfl
theorem tA45 : tA Try.prog 45 = some false := by kernel_rfl
theorem tB45 : tB Try.prog 45 = some 8 := by kernel_rfl
theorem tZ45 : tZ Try.prog 45 = some [.nilFunc] := by kernel_rfl
theorem tS46 : tS Try.prog 46 = some 9 := by kernel_rfl
theorem tA46 : tA Try.prog 46 = some true := by kernel_rfl
theorem tB46 : tB Try.prog 46 = some 104 := by kernel_rfl
theorem tZ46 : tZ Try.prog 46 = some [.int .u64 0, .slice none 0 0, .int .u64 0, .int .u64 0, .int .i64 0, .int .i64 0, .slice none 0 0, .int .i64 0, .int .i64 0] := by kernel_rfl
theorem tF46_0 : tF Try.prog 46 0 = some (0, 25) := by kernel_rfl
theorem tF46_1 : tF Try.prog 46 1 = some (2, 22) := by kernel_rfl
theorem tF46_2 : tF Try.prog 46 2 = some (3, 34) := by kernel_rfl
theorem tF46_3 : tF Try.prog 46 3 = some (7, 3) := by kernel_rfl
theorem tF46_4 : tF Try.prog 46 4 = some (8, 28) := by kernel_rfl
theorem tP46 : tP Try.prog 46 = some [(0, 2), (2, 1), (3, 4), (7, 1), (8, 1)] := by kernel_rfl
theorem tS47 : tS Try.prog 47 = some 9 := by kernel_rfl
theorem tA47 : tA Try.prog 47 = some true := by kernel_rfl
theorem tB47 : tB Try.prog 47 = some 104 := by kernel_rfl
theorem tZ47 : tZ Try.prog 47 = some [.int .u64 0, .slice none 0 0, .int .u64 0, .int .u64 0, .int .i64 0, .int .i64 0, .slice none 0 0, .int .i64 0, .int .i64 0] := by kernel_rfl
theorem tF47_0 : tF Try.prog 47 0 = some (0, 25) := by kernel_rfl
theorem tF47_1 : tF Try.prog 47 1 = some (2, 22) := by kernel_rfl
theorem tF47_2 : tF Try.prog 47 2 = some (3, 34) := by kernel_rfl
theorem tF47_3 : tF Try.prog 47 3 = some (7, 3) := by kernel_rfl
theorem tF47_4 : tF Try.prog 47 4 = some (8, 28) := by kernel_rfl
theorem tP47 : tP Try.prog 47 = some [(0, 2), (2, 1), (3, 4), (7, 1), (8, 1)] := by kernel_rfl
theorem tS48 : tS Try.prog 48 = some 1 := by kernel_rfl
theorem tA48 : tA Try.prog 48 = some false := by kernel_rfl
theorem tB48 : tB Try.prog 48 = some 8 := by kernel_rfl
theorem tZ48 : tZ Try.prog 48 = some [.nilFunc] := by kernel_rfl
theorem tS49 : tS Try.prog 49 = some 1 := by kernel_rfl
theorem tA49 : tA Try.prog 49 = some false := by kernel_rfl
theorem tB49 : tB Try.prog 49 = some 8 := by kernel_rfl
theorem tZ49 : tZ Try.prog 49 = some [.int .u64 0] := by kernel_rfl
theorem tU49 : Try.prog.underlying 49 = some (.int .u64) := by kernel_rfl
theorem tS51 : tS Try.prog 51 = some 1 := by kernel_rfl
theorem tA51 : tA Try.prog 51 = some false := by kernel_rfl
theorem tB51 : tB Try.prog 51 = some 8 := by kernel_rfl
theorem tZ51 : tZ Try.prog 51 = some [.nilFunc] := by kernel_rfl
theorem tS52 : tS Try.prog 52 = some 1 := by kernel_rfl
theorem tA52 : tA Try.prog 52 = some false := by kernel_rfl
theorem tB52 : tB Try.prog 52 = some 8 := by kernel_rfl
theorem tZ52 : tZ Try.prog 52 = some [.nilFunc] := by kernel_rfl
theorem tS53 : tS Try.prog 53 = some 1 := by kernel_rfl
theorem tA53 : tA Try.prog 53 = some false := by kernel_rfl
theorem tB53 : tB Try.prog 53 = some 8 := by kernel_rfl
theorem tZ53 : tZ Try.prog 53 = some [.nilFunc] := by kernel_rfl
theorem tS54 : tS Try.prog 54 = some 1 := by kernel_rfl
theorem tA54 : tA Try.prog 54 = some false := by kernel_rfl
theorem tB54 : tB Try.prog 54 = some 8 := by kernel_rfl
theorem tZ54 : tZ Try.prog 54 = some [.nilFunc] := by kernel_rfl
theorem tS55 : tS Try.prog 55 = some 1 := by kernel_rfl
theorem tA55 : tA Try.prog 55 = some false := by kernel_rfl
theorem tB55 : tB Try.prog 55 = some 8 := by kernel_rfl
theorem tZ55 : tZ Try.prog 55 = some [.nilFunc] := by kernel_rfl
theorem tS56 : tS Try.prog 56 = some 1 := by kernel_rfl
theorem tA56 : tA Try.prog 56 = some false := by kernel_rfl
theorem tB56 : tB Try.prog 56 = some 8 := by kernel_rfl
theorem tZ56 : tZ Try.prog 56 = some [.nilFunc] := by kernel_rfl
theorem tS57 : tS Try.prog 57 = some 1 := by kernel_rfl
theorem tA57 : tA Try.prog 57 = some false := by kernel_rfl
theorem tB57 : tB Try.prog 57 = some 24 := by kernel_rfl
theorem tZ57 : tZ Try.prog 57 = some [.slice none 0 0] := by kernel_rfl
theorem tE57 : tE Try.prog 57 = some 25 := by kernel_rfl
theorem tR57 : tR Try.prog 57 = none := by kernel_rfl
theorem tU57 : Try.prog.underlying 57 = some (.slice 25) := by kernel_rfl
theorem tS58 : tS Try.prog 58 = some 1 := by kernel_rfl
theorem tA58 : tA Try.prog 58 = some false := by kernel_rfl
theorem tB58 : tB Try.prog 58 = some 24 := by kernel_rfl
theorem tZ58 : tZ Try.prog 58 = some [.slice none 0 0] := by kernel_rfl
theorem tE58 : tE Try.prog 58 = some 3 := by kernel_rfl
theorem tR58 : tR Try.prog 58 = none := by kernel_rfl
theorem tU58 : Try.prog.underlying 58 = some (.slice 3) := by kernel_rfl
theorem tS59 : tS Try.prog 59 = some 1 := by kernel_rfl
theorem tA59 : tA Try.prog 59 = some false := by kernel_rfl
theorem tB59 : tB Try.prog 59 = some 8 := by kernel_rfl
theorem tZ59 : tZ Try.prog 59 = some [.nilFunc] := by kernel_rfl
theorem tS60 : tS Try.prog 60 = some 1 := by kernel_rfl
theorem tA60 : tA Try.prog 60 = some false := by kernel_rfl
theorem tB60 : tB Try.prog 60 = some 8 := by kernel_rfl
theorem tZ60 : tZ Try.prog 60 = some [.nilFunc] := by kernel_rfl
theorem tS61 : tS Try.prog 61 = some 1 := by kernel_rfl
theorem tA61 : tA Try.prog 61 = some false := by kernel_rfl
theorem tB61 : tB Try.prog 61 = some 8 := by kernel_rfl
theorem tZ61 : tZ Try.prog 61 = some [.nilFunc] := by kernel_rfl
theorem tS62 : tS Try.prog 62 = some 1 := by kernel_rfl
theorem tA62 : tA Try.prog 62 = some false := by kernel_rfl
theorem tB62 : tB Try.prog 62 = some 8 := by kernel_rfl
theorem tZ62 : tZ Try.prog 62 = some [.nilFunc] := by kernel_rfl
theorem tS63 : tS Try.prog 63 = some 1 := by kernel_rfl
theorem tA63 : tA Try.prog 63 = some false := by kernel_rfl
theorem tB63 : tB Try.prog 63 = some 24 := by kernel_rfl
theorem tZ63 : tZ Try.prog 63 = some [.slice none 0 0] := by kernel_rfl
theorem tE63 : tE Try.prog 63 = some 66 := by kernel_rfl
theorem tR63 : tR Try.prog 63 = none := by kernel_rfl
theorem tU63 : Try.prog.underlying 63 = some (.slice 66) := by kernel_rfl
theorem tS64 : tS Try.prog 64 = some 1 := by kernel_rfl
theorem tA64 : tA Try.prog 64 = some false := by kernel_rfl
theorem tB64 : tB Try.prog 64 = some 24 := by kernel_rfl
theorem tZ64 : tZ Try.prog 64 = some [.slice none 0 0] := by kernel_rfl
theorem tE64 : tE Try.prog 64 = some 74 := by kernel_rfl
theorem tR64 : tR Try.prog 64 = none := by kernel_rfl
theorem tU64 : Try.prog.underlying 64 = some (.slice 74) := by kernel_rfl
theorem tS65 : tS Try.prog 65 = some 3 := by kernel_rfl
theorem tA65 : tA Try.prog 65 = some true := by kernel_rfl
theorem tB65 : tB Try.prog 65 = some 24 := by kernel_rfl
theorem tZ65 : tZ Try.prog 65 = some [.int .u64 0, .int .i64 0, .int .i64 0] := by kernel_rfl
theorem tF65_0 : tF Try.prog 65 0 = some (0, 22) := by kernel_rfl
theorem tF65_1 : tF Try.prog 65 1 = some (1, 3) := by kernel_rfl
theorem tF65_2 : tF Try.prog 65 2 = some (2, 3) := by kernel_rfl
theorem tP65 : tP Try.prog 65 = some [(0, 1), (1, 1), (2, 1)] := by kernel_rfl
theorem tS66 : tS Try.prog 66 = some 3 := by kernel_rfl
theorem tA66 : tA Try.prog 66 = some true := by kernel_rfl
theorem tB66 : tB Try.prog 66 = some 24 := by kernel_rfl
theorem tZ66 : tZ Try.prog 66 = some [.int .u64 0, .int .i64 0, .int .i64 0] := by kernel_rfl
theorem tF66_0 : tF Try.prog 66 0 = some (0, 22) := by kernel_rfl
theorem tF66_1 : tF Try.prog 66 1 = some (1, 3) := by kernel_rfl
theorem tF66_2 : tF Try.prog 66 2 = some (2, 3) := by kernel_rfl
theorem tP66 : tP Try.prog 66 = some [(0, 1), (1, 1), (2, 1)] := by kernel_rfl
theorem tS67 : tS Try.prog 67 = some 1 := by kernel_rfl
theorem tA67 : tA Try.prog 67 = some false := by kernel_rfl
theorem tB67 : tB Try.prog 67 = some 24 := by kernel_rfl
theorem tZ67 : tZ Try.prog 67 = some [.slice none 0 0] := by kernel_rfl
theorem tE67 : tE Try.prog 67 = some 95 := by kernel_rfl
theorem tR67 : tR Try.prog 67 = none := by kernel_rfl
theorem tU67 : Try.prog.underlying 67 = some (.slice 95) := by kernel_rfl
theorem tS68 : tS Try.prog 68 = some 6 := by kernel_rfl
theorem tA68 : tA Try.prog 68 = some true := by kernel_rfl
theorem tB68 : tB Try.prog 68 = some 64 := by kernel_rfl
theorem tZ68 : tZ Try.prog 68 = some [.int .u64 0, .int .u64 0, .int .i64 0, .int .i64 0, .int .i64 0, .slice none 0 0] := by kernel_rfl
theorem tF68_0 : tF Try.prog 68 0 = some (0, 22) := by kernel_rfl
theorem tF68_1 : tF Try.prog 68 1 = some (1, 22) := by kernel_rfl
theorem tF68_2 : tF Try.prog 68 2 = some (2, 3) := by kernel_rfl
theorem tF68_3 : tF Try.prog 68 3 = some (3, 3) := by kernel_rfl
theorem tF68_4 : tF Try.prog 68 4 = some (4, 2) := by kernel_rfl
theorem tF68_5 : tF Try.prog 68 5 = some (5, 67) := by kernel_rfl
theorem tP68 : tP Try.prog 68 = some [(0, 1), (1, 1), (2, 1), (3, 1), (4, 1), (5, 1)] := by kernel_rfl
theorem tS69 : tS Try.prog 69 = some 6 := by kernel_rfl
theorem tA69 : tA Try.prog 69 = some true := by kernel_rfl
theorem tB69 : tB Try.prog 69 = some 64 := by kernel_rfl
theorem tZ69 : tZ Try.prog 69 = some [.int .u64 0, .int .u64 0, .int .i64 0, .int .i64 0, .int .i64 0, .slice none 0 0] := by kernel_rfl
theorem tF69_0 : tF Try.prog 69 0 = some (0, 22) := by kernel_rfl
theorem tF69_1 : tF Try.prog 69 1 = some (1, 22) := by kernel_rfl
theorem tF69_2 : tF Try.prog 69 2 = some (2, 3) := by kernel_rfl
theorem tF69_3 : tF Try.prog 69 3 = some (3, 3) := by kernel_rfl
theorem tF69_4 : tF Try.prog 69 4 = some (4, 2) := by kernel_rfl
theorem tF69_5 : tF Try.prog 69 5 = some (5, 67) := by kernel_rfl
theorem tP69 : tP Try.prog 69 = some [(0, 1), (1, 1), (2, 1), (3, 1), (4, 1), (5, 1)] := by kernel_rfl
theorem tS71 : tS Try.prog 71 = some 1 := by kernel_rfl
theorem tA71 : tA Try.prog 71 = some false := by kernel_rfl
theorem tB71 : tB Try.prog 71 = some 8 := by kernel_rfl
theorem tZ71 : tZ Try.prog 71 = some [.nilFunc] := by kernel_rfl
theorem tS72 : tS Try.prog 72 = some 1 := by kernel_rfl
theorem tA72 : tA Try.prog 72 = some false := by kernel_rfl
theorem tB72 : tB Try.prog 72 = some 8 := by kernel_rfl
theorem tZ72 : tZ Try.prog 72 = some [.nilFunc] := by kernel_rfl
theorem tS73 : tS Try.prog 73 = some 1 := by kernel_rfl
theorem tA73 : tA Try.prog 73 = some false := by kernel_rfl
theorem tB73 : tB Try.prog 73 = some 8 := by kernel_rfl
theorem tZ73 : tZ Try.prog 73 = some [.nilFunc] := by kernel_rfl
theorem tS74 : tS Try.prog 74 = some 2 := by kernel_rfl
theorem tA74 : tA Try.prog 74 = some true := by kernel_rfl
theorem tB74 : tB Try.prog 74 = some 16 := by kernel_rfl
theorem tZ74 : tZ Try.prog 74 = some [.int .u64 0, .int .u64 0] := by kernel_rfl
theorem tR74 : tR Try.prog 74 = some (2, 22) := by kernel_rfl
theorem tE74 : tE Try.prog 74 = none := by kernel_rfl
theorem tP74 : tP Try.prog 74 = none := by kernel_rfl
theorem tS76 : tS Try.prog 76 = some 1 := by kernel_rfl
theorem tA76 : tA Try.prog 76 = some false := by kernel_rfl
theorem tB76 : tB Try.prog 76 = some 8 := by kernel_rfl
theorem tZ76 : tZ Try.prog 76 = some [.nilFunc] := by kernel_rfl
theorem tS77 : tS Try.prog 77 = some 1 := by kernel_rfl
theorem tA77 : tA Try.prog 77 = some false := by kernel_rfl
theorem tB77 : tB Try.prog 77 = some 8 := by kernel_rfl
theorem tZ77 : tZ Try.prog 77 = some [.nilFunc] := by kernel_rfl
theorem tS78 : tS Try.prog 78 = some 1 := by kernel_rfl
theorem tA78 : tA Try.prog 78 = some false := by kernel_rfl
theorem tB78 : tB Try.prog 78 = some 8 := by kernel_rfl
theorem tZ78 : tZ Try.prog 78 = some [.nilFunc] := by kernel_rfl
theorem tS79 : tS Try.prog 79 = some 1 := by kernel_rfl
theorem tA79 : tA Try.prog 79 = some false := by kernel_rfl
theorem tB79 : tB Try.prog 79 = some 8 := by kernel_rfl
theorem tZ79 : tZ Try.prog 79 = some [.nilFunc] := by kernel_rfl
theorem tS80 : tS Try.prog 80 = some 1 := by kernel_rfl
theorem tA80 : tA Try.prog 80 = some false := by kernel_rfl
theorem tB80 : tB Try.prog 80 = some 24 := by kernel_rfl
theorem tZ80 : tZ Try.prog 80 = some [.slice none 0 0] := by kernel_rfl
theorem tE80 : tE Try.prog 80 = some 85 := by kernel_rfl
theorem tR80 : tR Try.prog 80 = none := by kernel_rfl
theorem tU80 : Try.prog.underlying 80 = some (.slice 85) := by kernel_rfl
theorem tS81 : tS Try.prog 81 = some 1 := by kernel_rfl
theorem tA81 : tA Try.prog 81 = some false := by kernel_rfl
theorem tB81 : tB Try.prog 81 = some 8 := by kernel_rfl
theorem tZ81 : tZ Try.prog 81 = some [.nilFunc] := by kernel_rfl
theorem tS82 : tS Try.prog 82 = some 2 := by kernel_rfl
theorem tA82 : tA Try.prog 82 = some true := by kernel_rfl
theorem tB82 : tB Try.prog 82 = some 32 := by kernel_rfl
theorem tZ82 : tZ Try.prog 82 = some [.int .i64 0, .slice none 0 0] := by kernel_rfl
theorem tF82_0 : tF Try.prog 82 0 = some (0, 3) := by kernel_rfl
theorem tF82_1 : tF Try.prog 82 1 = some (1, 32) := by kernel_rfl
theorem tP82 : tP Try.prog 82 = some [(0, 1), (1, 1)] := by kernel_rfl
theorem tS83 : tS Try.prog 83 = some 2 := by kernel_rfl
theorem tA83 : tA Try.prog 83 = some true := by kernel_rfl
theorem tB83 : tB Try.prog 83 = some 32 := by kernel_rfl
theorem tZ83 : tZ Try.prog 83 = some [.int .i64 0, .slice none 0 0] := by kernel_rfl
theorem tF83_0 : tF Try.prog 83 0 = some (0, 3) := by kernel_rfl
theorem tF83_1 : tF Try.prog 83 1 = some (1, 32) := by kernel_rfl
theorem tP83 : tP Try.prog 83 = some [(0, 1), (1, 1)] := by kernel_rfl
theorem tS84 : tS Try.prog 84 = some 8 := by kernel_rfl
theorem tA84 : tA Try.prog 84 = some true := by kernel_rfl
theorem tB84 : tB Try.prog 84 = some 80 := by kernel_rfl
theorem tZ84 : tZ Try.prog 84 = some [.int .i64 0, .int .i64 0, .int .i64 0, .bool false, .int .i64 0, .int .i64 0, .int .i64 0, .slice none 0 0] := by kernel_rfl
theorem tF84_0 : tF Try.prog 84 0 = some (0, 3) := by kernel_rfl
theorem tF84_1 : tF Try.prog 84 1 = some (1, 3) := by kernel_rfl
theorem tF84_2 : tF Try.prog 84 2 = some (2, 2) := by kernel_rfl
theorem tF84_3 : tF Try.prog 84 3 = some (3, 4) := by kernel_rfl
theorem tF84_4 : tF Try.prog 84 4 = some (4, 3) := by kernel_rfl
theorem tF84_5 : tF Try.prog 84 5 = some (5, 3) := by kernel_rfl
theorem tF84_6 : tF Try.prog 84 6 = some (6, 83) := by kernel_rfl
theorem tP84 : tP Try.prog 84 = some [(0, 1), (1, 1), (2, 1), (3, 1), (4, 1), (5, 1), (6, 2)] := by kernel_rfl
theorem tS85 : tS Try.prog 85 = some 8 := by kernel_rfl
theorem tA85 : tA Try.prog 85 = some true := by kernel_rfl
theorem tB85 : tB Try.prog 85 = some 80 := by kernel_rfl
theorem tZ85 : tZ Try.prog 85 = some [.int .i64 0, .int .i64 0, .int .i64 0, .bool false, .int .i64 0, .int .i64 0, .int .i64 0, .slice none 0 0] := by kernel_rfl
theorem tF85_0 : tF Try.prog 85 0 = some (0, 3) := by kernel_rfl
theorem tF85_1 : tF Try.prog 85 1 = some (1, 3) := by kernel_rfl
theorem tF85_2 : tF Try.prog 85 2 = some (2, 2) := by kernel_rfl
theorem tF85_3 : tF Try.prog 85 3 = some (3, 4) := by kernel_rfl
theorem tF85_4 : tF Try.prog 85 4 = some (4, 3) := by kernel_rfl
theorem tF85_5 : tF Try.prog 85 5 = some (5, 3) := by kernel_rfl
theorem tF85_6 : tF Try.prog 85 6 = some (6, 83) := by kernel_rfl
theorem tP85 : tP Try.prog 85 = some [(0, 1), (1, 1), (2, 1), (3, 1), (4, 1), (5, 1), (6, 2)] := by kernel_rfl
theorem tS86 : tS Try.prog 86 = some 1 := by kernel_rfl
theorem tA86 : tA Try.prog 86 = some false := by kernel_rfl
theorem tB86 : tB Try.prog 86 = some 24 := by kernel_rfl
theorem tZ86 : tZ Try.prog 86 = some [.slice none 0 0] := by kernel_rfl
theorem tE86 : tE Try.prog 86 = some 83 := by kernel_rfl
theorem tR86 : tR Try.prog 86 = none := by kernel_rfl
theorem tU86 : Try.prog.underlying 86 = some (.slice 83) := by kernel_rfl
theorem tS87 : tS Try.prog 87 = some 11 := by kernel_rfl
theorem tA87 : tA Try.prog 87 = some true := by kernel_rfl
theorem tB87 : tB Try.prog 87 = some 136 := by kernel_rfl
theorem tZ87 : tZ Try.prog 87 = some [.int .u64 0, .int .u64 0, .int .i64 0, .int .i64 0, .int .i64 0, .slice none 0 0, .int .u64 0, .bool false, .slice none 0 0, .slice none 0 0, .int .i64 0] := by kernel_rfl
theorem tF87_0 : tF Try.prog 87 0 = some (0, 69) := by kernel_rfl
theorem tF87_1 : tF Try.prog 87 1 = some (6, 22) := by kernel_rfl
theorem tF87_2 : tF Try.prog 87 2 = some (7, 4) := by kernel_rfl
theorem tF87_3 : tF Try.prog 87 3 = some (8, 86) := by kernel_rfl
theorem tF87_4 : tF Try.prog 87 4 = some (9, 30) := by kernel_rfl
theorem tF87_5 : tF Try.prog 87 5 = some (10, 28) := by kernel_rfl
theorem tP87 : tP Try.prog 87 = some [(0, 6), (6, 1), (7, 1), (8, 1), (9, 1), (10, 1)] := by kernel_rfl
theorem tS88 : tS Try.prog 88 = some 11 := by kernel_rfl
theorem tA88 : tA Try.prog 88 = some true := by kernel_rfl
theorem tB88 : tB Try.prog 88 = some 136 := by kernel_rfl
theorem tZ88 : tZ Try.prog 88 = some [.int .u64 0, .int .u64 0, .int .i64 0, .int .i64 0, .int .i64 0, .slice none 0 0, .int .u64 0, .bool false, .slice none 0 0, .slice none 0 0, .int .i64 0] := by kernel_rfl
theorem tF88_0 : tF Try.prog 88 0 = some (0, 69) := by kernel_rfl
theorem tF88_1 : tF Try.prog 88 1 = some (6, 22) := by kernel_rfl
theorem tF88_2 : tF Try.prog 88 2 = some (7, 4) := by kernel_rfl
theorem tF88_3 : tF Try.prog 88 3 = some (8, 86) := by kernel_rfl
theorem tF88_4 : tF Try.prog 88 4 = some (9, 30) := by kernel_rfl
theorem tF88_5 : tF Try.prog 88 5 = some (10, 28) := by kernel_rfl
theorem tP88 : tP Try.prog 88 = some [(0, 6), (6, 1), (7, 1), (8, 1), (9, 1), (10, 1)] := by kernel_rfl
theorem tS89 : tS Try.prog 89 = some 1 := by kernel_rfl
theorem tA89 : tA Try.prog 89 = some false := by kernel_rfl
theorem tB89 : tB Try.prog 89 = some 8 := by kernel_rfl
theorem tZ89 : tZ Try.prog 89 = some [.nilFunc] := by kernel_rfl
theorem tS90 : tS Try.prog 90 = some 1 := by kernel_rfl
theorem tA90 : tA Try.prog 90 = some false := by kernel_rfl
theorem tB90 : tB Try.prog 90 = some 8 := by kernel_rfl
theorem tZ90 : tZ Try.prog 90 = some [.nilFunc] := by kernel_rfl
theorem tS91 : tS Try.prog 91 = some 1 := by kernel_rfl
theorem tA91 : tA Try.prog 91 = some false := by kernel_rfl
theorem tB91 : tB Try.prog 91 = some 8 := by kernel_rfl
theorem tZ91 : tZ Try.prog 91 = some [.nilFunc] := by kernel_rfl
theorem tS92 : tS Try.prog 92 = some 1 := by kernel_rfl
theorem tA92 : tA Try.prog 92 = some false := by kernel_rfl
theorem tB92 : tB Try.prog 92 = some 8 := by kernel_rfl
theorem tZ92 : tZ Try.prog 92 = some [.nilFunc] := by kernel_rfl
theorem tS93 : tS Try.prog 93 = some 1 := by kernel_rfl
theorem tA93 : tA Try.prog 93 = some false := by kernel_rfl
theorem tB93 : tB Try.prog 93 = some 8 := by kernel_rfl
theorem tZ93 : tZ Try.prog 93 = some [.nilFunc] := by kernel_rfl
theorem tS94 : tS Try.prog 94 = some 4 := by kernel_rfl
theorem tA94 : tA Try.prog 94 = some true := by kernel_rfl
theorem tB94 : tB Try.prog 94 = some 48 := by kernel_rfl
theorem tZ94 : tZ Try.prog 94 = some [.int .u64 0, .int .i64 0, .bool false, .slice none 0 0] := by kernel_rfl
theorem tF94_0 : tF Try.prog 94 0 = some (0, 22) := by kernel_rfl
theorem tF94_1 : tF Try.prog 94 1 = some (1, 2) := by kernel_rfl
theorem tF94_2 : tF Try.prog 94 2 = some (2, 4) := by kernel_rfl
theorem tF94_3 : tF Try.prog 94 3 = some (3, 86) := by kernel_rfl
theorem tP94 : tP Try.prog 94 = some [(0, 1), (1, 1), (2, 1), (3, 1)] := by kernel_rfl
theorem tS95 : tS Try.prog 95 = some 4 := by kernel_rfl
theorem tA95 : tA Try.prog 95 = some true := by kernel_rfl
theorem tB95 : tB Try.prog 95 = some 48 := by kernel_rfl
theorem tZ95 : tZ Try.prog 95 = some [.int .u64 0, .int .i64 0, .bool false, .slice none 0 0] := by kernel_rfl
theorem tF95_0 : tF Try.prog 95 0 = some (0, 22) := by kernel_rfl
theorem tF95_1 : tF Try.prog 95 1 = some (1, 2) := by kernel_rfl
theorem tF95_2 : tF Try.prog 95 2 = some (2, 4) := by kernel_rfl
theorem tF95_3 : tF Try.prog 95 3 = some (3, 86) := by kernel_rfl
theorem tP95 : tP Try.prog 95 = some [(0, 1), (1, 1), (2, 1), (3, 1)] := by kernel_rfl
theorem tS96 : tS Try.prog 96 = some 1 := by kernel_rfl
theorem tA96 : tA Try.prog 96 = some false := by kernel_rfl
theorem tB96 : tB Try.prog 96 = some 8 := by kernel_rfl
theorem tZ96 : tZ Try.prog 96 = some [.nilFunc] := by kernel_rfl
theorem tS97 : tS Try.prog 97 = some 1 := by kernel_rfl
theorem tA97 : tA Try.prog 97 = some false := by kernel_rfl
theorem tB97 : tB Try.prog 97 = some 24 := by kernel_rfl
theorem tZ97 : tZ Try.prog 97 = some [.slice none 0 0] := by kernel_rfl
theorem tE97 : tE Try.prog 97 = some 69 := by kernel_rfl
theorem tR97 : tR Try.prog 97 = none := by kernel_rfl
theorem tU97 : Try.prog.underlying 97 = some (.slice 69) := by kernel_rfl
theorem tS98 : tS Try.prog 98 = some 1 := by kernel_rfl
theorem tA98 : tA Try.prog 98 = some false := by kernel_rfl
theorem tB98 : tB Try.prog 98 = some 8 := by kernel_rfl
theorem tZ98 : tZ Try.prog 98 = some [.nilFunc] := by kernel_rfl
theorem tS99 : tS Try.prog 99 = some 1 := by kernel_rfl
theorem tA99 : tA Try.prog 99 = some false := by kernel_rfl
theorem tB99 : tB Try.prog 99 = some 8 := by kernel_rfl
theorem tZ99 : tZ Try.prog 99 = some [.nilFunc] := by kernel_rfl
theorem tS100 : tS Try.prog 100 = some 1 := by kernel_rfl
theorem tA100 : tA Try.prog 100 = some false := by kernel_rfl
theorem tB100 : tB Try.prog 100 = some 8 := by kernel_rfl
theorem tZ100 : tZ Try.prog 100 = some [.map none] := by kernel_rfl
theorem tU100 : Try.prog.underlying 100 = some (.map 22 101) := by kernel_rfl
theorem tS101 : tS Try.prog 101 = some 1 := by kernel_rfl
theorem tA101 : tA Try.prog 101 = some false := by kernel_rfl
theorem tB101 : tB Try.prog 101 = some 8 := by kernel_rfl
theorem tZ101 : tZ Try.prog 101 = some [.map none] := by kernel_rfl
theorem tU101 : Try.prog.underlying 101 = some (.map 3 32) := by kernel_rfl
theorem tS102 : tS Try.prog 102 = some 1 := by kernel_rfl
theorem tA102 : tA Try.prog 102 = some false := by kernel_rfl
theorem tB102 : tB Try.prog 102 = some 8 := by kernel_rfl
theorem tZ102 : tZ Try.prog 102 = some [.nilFunc] := by kernel_rfl
theorem tS104 : tS Try.prog 104 = some 1 := by kernel_rfl
theorem tA104 : tA Try.prog 104 = some false := by kernel_rfl
theorem tB104 : tB Try.prog 104 = some 8 := by kernel_rfl
theorem tZ104 : tZ Try.prog 104 = some [.nilFunc] := by kernel_rfl
theorem tS105 : tS Try.prog 105 = some 1 := by kernel_rfl
theorem tA105 : tA Try.prog 105 = some false := by kernel_rfl
theorem tB105 : tB Try.prog 105 = some 8 := by kernel_rfl
theorem tZ105 : tZ Try.prog 105 = some [.nilFunc] := by kernel_rfl
theorem tS106 : tS Try.prog 106 = some 1 := by kernel_rfl
theorem tA106 : tA Try.prog 106 = some false := by kernel_rfl
theorem tB106 : tB Try.prog 106 = some 8 := by kernel_rfl
theorem tZ106 : tZ Try.prog 106 = some [.nilFunc] := by kernel_rfl
theorem tS107 : tS Try.prog 107 = some 1 := by kernel_rfl
theorem tA107 : tA Try.prog 107 = some false := by kernel_rfl
theorem tB107 : tB Try.prog 107 = some 8 := by kernel_rfl
theorem tZ107 : tZ Try.prog 107 = some [.nilFunc] := by kernel_rfl
theorem tS108 : tS Try.prog 108 = some 1 := by kernel_rfl
theorem tA108 : tA Try.prog 108 = some false := by kernel_rfl
theorem tB108 : tB Try.prog 108 = some 8 := by kernel_rfl
theorem tZ108 : tZ Try.prog 108 = some [.nilFunc] := by kernel_rfl
theorem tS109 : tS Try.prog 109 = some 1 := by kernel_rfl
theorem tA109 : tA Try.prog 109 = some false := by kernel_rfl
theorem tB109 : tB Try.prog 109 = some 8 := by kernel_rfl
theorem tZ109 : tZ Try.prog 109 = some [.nilFunc] := by kernel_rfl
theorem tS111 : tS Try.prog 111 = some 1 := by kernel_rfl
theorem tA111 : tA Try.prog 111 = some false := by kernel_rfl
theorem tB111 : tB Try.prog 111 = some 8 := by kernel_rfl
theorem tZ111 : tZ Try.prog 111 = some [.nilFunc] := by kernel_rfl
theorem tS112 : tS Try.prog 112 = some 1 := by kernel_rfl
theorem tA112 : tA Try.prog 112 = some false := by kernel_rfl
theorem tB112 : tB Try.prog 112 = some 8 := by kernel_rfl
theorem tZ112 : tZ Try.prog 112 = some [.pointer none] := by kernel_rfl
theorem tS114 : tS Try.prog 114 = some 1 := by kernel_rfl
theorem tA114 : tA Try.prog 114 = some false := by kernel_rfl
theorem tB114 : tB Try.prog 114 = some 8 := by kernel_rfl
theorem tZ114 : tZ Try.prog 114 = some [.nilFunc] := by kernel_rfl
theorem tS115 : tS Try.prog 115 = some 1 := by kernel_rfl
theorem tA115 : tA Try.prog 115 = some false := by kernel_rfl
theorem tB115 : tB Try.prog 115 = some 8 := by kernel_rfl
theorem tZ115 : tZ Try.prog 115 = some [.nilFunc] := by kernel_rfl
theorem tS116 : tS Try.prog 116 = some 1 := by kernel_rfl
theorem tA116 : tA Try.prog 116 = some false := by kernel_rfl
theorem tB116 : tB Try.prog 116 = some 8 := by kernel_rfl
theorem tZ116 : tZ Try.prog 116 = some [.nilFunc] := by kernel_rfl
theorem tS117 : tS Try.prog 117 = some 1 := by kernel_rfl
theorem tA117 : tA Try.prog 117 = some false := by kernel_rfl
theorem tB117 : tB Try.prog 117 = some 8 := by kernel_rfl
theorem tZ117 : tZ Try.prog 117 = some [.nilFunc] := by kernel_rfl
theorem tS118 : tS Try.prog 118 = some 1 := by kernel_rfl
theorem tA118 : tA Try.prog 118 = some false := by kernel_rfl
theorem tB118 : tB Try.prog 118 = some 8 := by kernel_rfl
theorem tZ118 : tZ Try.prog 118 = some [.nilFunc] := by kernel_rfl
theorem tS120 : tS Try.prog 120 = some 1 := by kernel_rfl
theorem tA120 : tA Try.prog 120 = some false := by kernel_rfl
theorem tB120 : tB Try.prog 120 = some 8 := by kernel_rfl
theorem tZ120 : tZ Try.prog 120 = some [.nilFunc] := by kernel_rfl
theorem tS121 : tS Try.prog 121 = some 1 := by kernel_rfl
theorem tA121 : tA Try.prog 121 = some false := by kernel_rfl
theorem tB121 : tB Try.prog 121 = some 8 := by kernel_rfl
theorem tZ121 : tZ Try.prog 121 = some [.nilFunc] := by kernel_rfl
theorem tS122 : tS Try.prog 122 = some 1 := by kernel_rfl
theorem tA122 : tA Try.prog 122 = some false := by kernel_rfl
theorem tB122 : tB Try.prog 122 = some 8 := by kernel_rfl
theorem tZ122 : tZ Try.prog 122 = some [.nilFunc] := by kernel_rfl
theorem tS124 : tS Try.prog 124 = some 1 := by kernel_rfl
theorem tA124 : tA Try.prog 124 = some false := by kernel_rfl
theorem tB124 : tB Try.prog 124 = some 8 := by kernel_rfl
theorem tZ124 : tZ Try.prog 124 = some [.nilFunc] := by kernel_rfl
theorem tS126 : tS Try.prog 126 = some 1 := by kernel_rfl
theorem tA126 : tA Try.prog 126 = some false := by kernel_rfl
theorem tB126 : tB Try.prog 126 = some 8 := by kernel_rfl
theorem tZ126 : tZ Try.prog 126 = some [.nilFunc] := by kernel_rfl
theorem tS128 : tS Try.prog 128 = some 1 := by kernel_rfl
theorem tA128 : tA Try.prog 128 = some false := by kernel_rfl
theorem tB128 : tB Try.prog 128 = some 8 := by kernel_rfl
theorem tZ128 : tZ Try.prog 128 = some [.nilFunc] := by kernel_rfl
theorem tS129 : tS Try.prog 129 = some 1 := by kernel_rfl
theorem tA129 : tA Try.prog 129 = some false := by kernel_rfl
theorem tB129 : tB Try.prog 129 = some 8 := by kernel_rfl
theorem tZ129 : tZ Try.prog 129 = some [.nilFunc] := by kernel_rfl
theorem tS130 : tS Try.prog 130 = some 1 := by kernel_rfl
theorem tA130 : tA Try.prog 130 = some false := by kernel_rfl
theorem tB130 : tB Try.prog 130 = some 8 := by kernel_rfl
theorem tZ130 : tZ Try.prog 130 = some [.nilFunc] := by kernel_rfl
theorem tS131 : tS Try.prog 131 = some 1 := by kernel_rfl
theorem tA131 : tA Try.prog 131 = some false := by kernel_rfl
theorem tB131 : tB Try.prog 131 = some 8 := by kernel_rfl
theorem tZ131 : tZ Try.prog 131 = some [.nilFunc] := by kernel_rfl
theorem tS133 : tS Try.prog 133 = some 1 := by kernel_rfl
theorem tA133 : tA Try.prog 133 = some false := by kernel_rfl
theorem tB133 : tB Try.prog 133 = some 8 := by kernel_rfl
theorem tZ133 : tZ Try.prog 133 = some [.nilFunc] := by kernel_rfl
theorem tS134 : tS Try.prog 134 = some 1 := by kernel_rfl
theorem tA134 : tA Try.prog 134 = some false := by kernel_rfl
theorem tB134 : tB Try.prog 134 = some 8 := by kernel_rfl
theorem tZ134 : tZ Try.prog 134 = some [.nilFunc] := by kernel_rfl
theorem tS135 : tS Try.prog 135 = some 1 := by kernel_rfl
theorem tA135 : tA Try.prog 135 = some false := by kernel_rfl
theorem tB135 : tB Try.prog 135 = some 8 := by kernel_rfl
theorem tZ135 : tZ Try.prog 135 = some [.nilFunc] := by kernel_rfl
theorem tS136 : tS Try.prog 136 = some 1 := by kernel_rfl
theorem tA136 : tA Try.prog 136 = some false := by kernel_rfl
theorem tB136 : tB Try.prog 136 = some 8 := by kernel_rfl
theorem tZ136 : tZ Try.prog 136 = some [.nilFunc] := by kernel_rfl
theorem tS137 : tS Try.prog 137 = some 1 := by kernel_rfl
theorem tA137 : tA Try.prog 137 = some false := by kernel_rfl
theorem tB137 : tB Try.prog 137 = some 8 := by kernel_rfl
theorem tZ137 : tZ Try.prog 137 = some [.nilFunc] := by kernel_rfl
theorem tS138 : tS Try.prog 138 = some 1 := by kernel_rfl
theorem tA138 : tA Try.prog 138 = some false := by kernel_rfl
theorem tB138 : tB Try.prog 138 = some 8 := by kernel_rfl
theorem tZ138 : tZ Try.prog 138 = some [.nilFunc] := by kernel_rfl
theorem tS139 : tS Try.prog 139 = some 1 := by kernel_rfl
theorem tA139 : tA Try.prog 139 = some false := by kernel_rfl
theorem tB139 : tB Try.prog 139 = some 8 := by kernel_rfl
theorem tZ139 : tZ Try.prog 139 = some [.nilFunc] := by kernel_rfl
theorem tS140 : tS Try.prog 140 = some 1 := by kernel_rfl
theorem tA140 : tA Try.prog 140 = some false := by kernel_rfl
theorem tB140 : tB Try.prog 140 = some 8 := by kernel_rfl
theorem tZ140 : tZ Try.prog 140 = some [.nilFunc] := by kernel_rfl
theorem tS141 : tS Try.prog 141 = some 1 := by kernel_rfl
theorem tA141 : tA Try.prog 141 = some false := by kernel_rfl
theorem tB141 : tB Try.prog 141 = some 8 := by kernel_rfl
theorem tZ141 : tZ Try.prog 141 = some [.nilFunc] := by kernel_rfl
theorem tS142 : tS Try.prog 142 = some 1 := by kernel_rfl
theorem tA142 : tA Try.prog 142 = some false := by kernel_rfl
theorem tB142 : tB Try.prog 142 = some 8 := by kernel_rfl
theorem tZ142 : tZ Try.prog 142 = some [.nilFunc] := by kernel_rfl
theorem tS143 : tS Try.prog 143 = some 1 := by kernel_rfl
theorem tA143 : tA Try.prog 143 = some false := by kernel_rfl
theorem tB143 : tB Try.prog 143 = some 8 := by kernel_rfl
theorem tZ143 : tZ Try.prog 143 = some [.nilFunc] := by kernel_rfl
theorem tS144 : tS Try.prog 144 = some 1 := by kernel_rfl
theorem tA144 : tA Try.prog 144 = some false := by kernel_rfl
theorem tB144 : tB Try.prog 144 = some 8 := by kernel_rfl
theorem tZ144 : tZ Try.prog 144 = some [.nilFunc] := by kernel_rfl
theorem tS145 : tS Try.prog 145 = some 1 := by kernel_rfl
theorem tA145 : tA Try.prog 145 = some false := by kernel_rfl
theorem tB145 : tB Try.prog 145 = some 8 := by kernel_rfl
theorem tZ145 : tZ Try.prog 145 = some [.pointer none] := by kernel_rfl
theorem tS146 : tS Try.prog 146 = some 1 := by kernel_rfl
theorem tA146 : tA Try.prog 146 = some false := by kernel_rfl
theorem tB146 : tB Try.prog 146 = some 8 := by kernel_rfl
theorem tZ146 : tZ Try.prog 146 = some [.nilFunc] := by kernel_rfl
theorem tS147 : tS Try.prog 147 = some 1 := by kernel_rfl
theorem tA147 : tA Try.prog 147 = some false := by kernel_rfl
theorem tB147 : tB Try.prog 147 = some 8 := by kernel_rfl
theorem tZ147 : tZ Try.prog 147 = some [.nilFunc] := by kernel_rfl
theorem tS148 : tS Try.prog 148 = some 1 := by kernel_rfl
theorem tA148 : tA Try.prog 148 = some false := by kernel_rfl
theorem tB148 : tB Try.prog 148 = some 8 := by kernel_rfl
theorem tZ148 : tZ Try.prog 148 = some [.nilFunc] := by kernel_rfl
theorem tS149 : tS Try.prog 149 = some 1 := by kernel_rfl
theorem tA149 : tA Try.prog 149 = some false := by kernel_rfl
theorem tB149 : tB Try.prog 149 = some 8 := by kernel_rfl
theorem tZ149 : tZ Try.prog 149 = some [.nilFunc] := by kernel_rfl
theorem tS150 : tS Try.prog 150 = some 1 := by kernel_rfl
theorem tA150 : tA Try.prog 150 = some false := by kernel_rfl
theorem tB150 : tB Try.prog 150 = some 8 := by kernel_rfl
theorem tZ150 : tZ Try.prog 150 = some [.nilFunc] := by kernel_rfl
theorem tS151 : tS Try.prog 151 = some 1 := by kernel_rfl
theorem tA151 : tA Try.prog 151 = some false := by kernel_rfl
theorem tB151 : tB Try.prog 151 = some 8 := by kernel_rfl
theorem tZ151 : tZ Try.prog 151 = some [.nilFunc] := by kernel_rfl
theorem tS152 : tS Try.prog 152 = some 1 := by kernel_rfl
theorem tA152 : tA Try.prog 152 = some false := by kernel_rfl
theorem tB152 : tB Try.prog 152 = some 8 := by kernel_rfl
theorem tZ152 : tZ Try.prog 152 = some [.nilFunc] := by kernel_rfl
theorem tS153 : tS Try.prog 153 = some 1 := by kernel_rfl
theorem tA153 : tA Try.prog 153 = some false := by kernel_rfl
theorem tB153 : tB Try.prog 153 = some 8 := by kernel_rfl
theorem tZ153 : tZ Try.prog 153 = some [.nilFunc] := by kernel_rfl
theorem tS154 : tS Try.prog 154 = some 1 := by kernel_rfl
theorem tA154 : tA Try.prog 154 = some false := by kernel_rfl
theorem tB154 : tB Try.prog 154 = some 8 := by kernel_rfl
theorem tZ154 : tZ Try.prog 154 = some [.nilFunc] := by kernel_rfl
theorem tS155 : tS Try.prog 155 = some 1 := by kernel_rfl
theorem tA155 : tA Try.prog 155 = some false := by kernel_rfl
theorem tB155 : tB Try.prog 155 = some 8 := by kernel_rfl
theorem tZ155 : tZ Try.prog 155 = some [.nilFunc] := by kernel_rfl
theorem tS157 : tS Try.prog 157 = some 1 := by kernel_rfl
theorem tA157 : tA Try.prog 157 = some false := by kernel_rfl
theorem tB157 : tB Try.prog 157 = some 8 := by kernel_rfl
theorem tZ157 : tZ Try.prog 157 = some [.nilFunc] := by kernel_rfl
theorem tS158 : tS Try.prog 158 = some 1 := by kernel_rfl
theorem tA158 : tA Try.prog 158 = some false := by kernel_rfl
theorem tB158 : tB Try.prog 158 = some 8 := by kernel_rfl
theorem tZ158 : tZ Try.prog 158 = some [.pointer none] := by kernel_rfl
theorem tS159 : tS Try.prog 159 = some 1 := by kernel_rfl
theorem tA159 : tA Try.prog 159 = some false := by kernel_rfl
theorem tB159 : tB Try.prog 159 = some 8 := by kernel_rfl
theorem tZ159 : tZ Try.prog 159 = some [.nilFunc] := by kernel_rfl
theorem tS160 : tS Try.prog 160 = some 1 := by kernel_rfl
theorem tA160 : tA Try.prog 160 = some false := by kernel_rfl
theorem tB160 : tB Try.prog 160 = some 8 := by kernel_rfl
theorem tZ160 : tZ Try.prog 160 = some [.nilFunc] := by kernel_rfl
theorem tS161 : tS Try.prog 161 = some 1 := by kernel_rfl
theorem tA161 : tA Try.prog 161 = some false := by kernel_rfl
theorem tB161 : tB Try.prog 161 = some 8 := by kernel_rfl
theorem tZ161 : tZ Try.prog 161 = some [.nilFunc] := by kernel_rfl
theorem tS162 : tS Try.prog 162 = some 1 := by kernel_rfl
theorem tA162 : tA Try.prog 162 = some false := by kernel_rfl
theorem tB162 : tB Try.prog 162 = some 8 := by kernel_rfl
theorem tZ162 : tZ Try.prog 162 = some [.nilFunc] := by kernel_rfl
theorem tS163 : tS Try.prog 163 = some 1 := by kernel_rfl
theorem tA163 : tA Try.prog 163 = some false := by kernel_rfl
theorem tB163 : tB Try.prog 163 = some 8 := by kernel_rfl
theorem tZ163 : tZ Try.prog 163 = some [.nilFunc] := by kernel_rfl
theorem tS164 : tS Try.prog 164 = some 1 := by kernel_rfl
theorem tA164 : tA Try.prog 164 = some false := by kernel_rfl
theorem tB164 : tB Try.prog 164 = some 8 := by kernel_rfl
theorem tZ164 : tZ Try.prog 164 = some [.nilFunc] := by kernel_rfl
theorem tS165 : tS Try.prog 165 = some 1 := by kernel_rfl
theorem tA165 : tA Try.prog 165 = some false := by kernel_rfl
theorem tB165 : tB Try.prog 165 = some 8 := by kernel_rfl
theorem tZ165 : tZ Try.prog 165 = some [.nilFunc] := by kernel_rfl
theorem tS166 : tS Try.prog 166 = some 1 := by kernel_rfl
theorem tA166 : tA Try.prog 166 = some false := by kernel_rfl
theorem tB166 : tB Try.prog 166 = some 8 := by kernel_rfl
theorem tZ166 : tZ Try.prog 166 = some [.nilFunc] := by kernel_rfl
theorem tS167 : tS Try.prog 167 = some 1 := by kernel_rfl
theorem tA167 : tA Try.prog 167 = some false := by kernel_rfl
theorem tB167 : tB Try.prog 167 = some 8 := by kernel_rfl
theorem tZ167 : tZ Try.prog 167 = some [.nilFunc] := by kernel_rfl
theorem tS168 : tS Try.prog 168 = some 1 := by kernel_rfl
theorem tA168 : tA Try.prog 168 = some false := by kernel_rfl
theorem tB168 : tB Try.prog 168 = some 8 := by kernel_rfl
theorem tZ168 : tZ Try.prog 168 = some [.nilFunc] := by kernel_rfl
theorem tS169 : tS Try.prog 169 = some 1 := by kernel_rfl
theorem tA169 : tA Try.prog 169 = some false := by kernel_rfl
theorem tB169 : tB Try.prog 169 = some 8 := by kernel_rfl
theorem tZ169 : tZ Try.prog 169 = some [.nilFunc] := by kernel_rfl
theorem tS170 : tS Try.prog 170 = some 1 := by kernel_rfl
theorem tA170 : tA Try.prog 170 = some false := by kernel_rfl
theorem tB170 : tB Try.prog 170 = some 8 := by kernel_rfl
theorem tZ170 : tZ Try.prog 170 = some [.nilFunc] := by kernel_rfl
theorem tS171 : tS Try.prog 171 = some 1 := by kernel_rfl
theorem tA171 : tA Try.prog 171 = some false := by kernel_rfl
theorem tB171 : tB Try.prog 171 = some 8 := by kernel_rfl
theorem tZ171 : tZ Try.prog 171 = some [.nilFunc] := by kernel_rfl
theorem tS172 : tS Try.prog 172 = some 1 := by kernel_rfl
theorem tA172 : tA Try.prog 172 = some false := by kernel_rfl
theorem tB172 : tB Try.prog 172 = some 8 := by kernel_rfl
theorem tZ172 : tZ Try.prog 172 = some [.nilFunc] := by kernel_rfl
theorem tS173 : tS Try.prog 173 = some 1 := by kernel_rfl
theorem tA173 : tA Try.prog 173 = some false := by kernel_rfl
theorem tB173 : tB Try.prog 173 = some 8 := by kernel_rfl
theorem tZ173 : tZ Try.prog 173 = some [.nilFunc] := by kernel_rfl
theorem tS174 : tS Try.prog 174 = some 1 := by kernel_rfl
theorem tA174 : tA Try.prog 174 = some false := by kernel_rfl
theorem tB174 : tB Try.prog 174 = some 8 := by kernel_rfl
theorem tZ174 : tZ Try.prog 174 = some [.nilFunc] := by kernel_rfl
theorem tS175 : tS Try.prog 175 = some 4 := by kernel_rfl
theorem tA175 : tA Try.prog 175 = some true := by kernel_rfl
theorem tB175 : tB Try.prog 175 = some 40 := by kernel_rfl
theorem tZ175 : tZ Try.prog 175 = some [.pointer none, .pointer none, .pointer none, .string ⟨#[]⟩] := by kernel_rfl
theorem tF175_0 : tF Try.prog 175 0 = some (0, 17) := by kernel_rfl
theorem tF175_1 : tF Try.prog 175 1 = some (1, 17) := by kernel_rfl
theorem tF175_2 : tF Try.prog 175 2 = some (2, 17) := by kernel_rfl
theorem tF175_3 : tF Try.prog 175 3 = some (3, 9) := by kernel_rfl
theorem tP175 : tP Try.prog 175 = some [(0, 1), (1, 1), (2, 1), (3, 1)] := by kernel_rfl
theorem tS177 : tS Try.prog 177 = some 0 := by kernel_rfl
theorem tA177 : tA Try.prog 177 = some true := by kernel_rfl
theorem tB177 : tB Try.prog 177 = some 0 := by kernel_rfl
theorem tZ177 : tZ Try.prog 177 = some [] := by kernel_rfl
theorem tR177 : tR Try.prog 177 = some (0, 16) := by kernel_rfl
theorem tE177 : tE Try.prog 177 = none := by kernel_rfl
theorem tP177 : tP Try.prog 177 = none := by kernel_rfl
theorem tS178 : tS Try.prog 178 = some 0 := by kernel_rfl
theorem tA178 : tA Try.prog 178 = some true := by kernel_rfl
theorem tB178 : tB Try.prog 178 = some 0 := by kernel_rfl
theorem tZ178 : tZ Try.prog 178 = some [] := by kernel_rfl
theorem tF178_0 : tF Try.prog 178 0 = some (0, 177) := by kernel_rfl
theorem tP178 : tP Try.prog 178 = some [(0, 0)] := by kernel_rfl
theorem tS180 : tS Try.prog 180 = some 1 := by kernel_rfl
theorem tA180 : tA Try.prog 180 = some false := by kernel_rfl
theorem tB180 : tB Try.prog 180 = some 8 := by kernel_rfl
theorem tZ180 : tZ Try.prog 180 = some [.nilFunc] := by kernel_rfl
theorem tS181 : tS Try.prog 181 = some 1 := by kernel_rfl
theorem tA181 : tA Try.prog 181 = some false := by kernel_rfl
theorem tB181 : tB Try.prog 181 = some 4 := by kernel_rfl
theorem tZ181 : tZ Try.prog 181 = some [.int .u32 0] := by kernel_rfl
theorem tU181 : Try.prog.underlying 181 = some (.int .u32) := by kernel_rfl
theorem tS182 : tS Try.prog 182 = some 1 := by kernel_rfl
theorem tA182 : tA Try.prog 182 = some false := by kernel_rfl
theorem tB182 : tB Try.prog 182 = some 1 := by kernel_rfl
theorem tZ182 : tZ Try.prog 182 = some [.int .u8 0] := by kernel_rfl
theorem tU182 : Try.prog.underlying 182 = some (.int .u8) := by kernel_rfl
theorem tS183 : tS Try.prog 183 = some 1 := by kernel_rfl
theorem tA183 : tA Try.prog 183 = some false := by kernel_rfl
theorem tB183 : tB Try.prog 183 = some 1 := by kernel_rfl
theorem tZ183 : tZ Try.prog 183 = some [.int .u8 0] := by kernel_rfl
theorem tU183 : Try.prog.underlying 183 = some (.int .u8) := by kernel_rfl
theorem tS184 : tS Try.prog 184 = some 1 := by kernel_rfl
theorem tA184 : tA Try.prog 184 = some false := by kernel_rfl
theorem tB184 : tB Try.prog 184 = some 8 := by kernel_rfl
theorem tZ184 : tZ Try.prog 184 = some [.nilFunc] := by kernel_rfl
theorem tS185 : tS Try.prog 185 = some 1 := by kernel_rfl
theorem tA185 : tA Try.prog 185 = some false := by kernel_rfl
theorem tB185 : tB Try.prog 185 = some 8 := by kernel_rfl
theorem tZ185 : tZ Try.prog 185 = some [.pointer none] := by kernel_rfl
theorem tS186 : tS Try.prog 186 = some 1 := by kernel_rfl
theorem tA186 : tA Try.prog 186 = some false := by kernel_rfl
theorem tB186 : tB Try.prog 186 = some 4 := by kernel_rfl
theorem tZ186 : tZ Try.prog 186 = some [.int .i32 0] := by kernel_rfl
theorem tU186 : Try.prog.underlying 186 = some (.int .i32) := by kernel_rfl
theorem tS187 : tS Try.prog 187 = some 1 := by kernel_rfl
theorem tA187 : tA Try.prog 187 = some false := by kernel_rfl
theorem tB187 : tB Try.prog 187 = some 4 := by kernel_rfl
theorem tZ187 : tZ Try.prog 187 = some [.int .i32 0] := by kernel_rfl
theorem tU187 : Try.prog.underlying 187 = some (.int .i32) := by kernel_rfl
theorem tS188 : tS Try.prog 188 = some 11 := by kernel_rfl
theorem tA188 : tA Try.prog 188 = some true := by kernel_rfl
theorem tB188 : tB Try.prog 188 = some 48 := by kernel_rfl
theorem tZ188 : tZ Try.prog 188 = some [.int .u64 0, .int .u64 0, .int .u32 0, .int .u8 0, .int .u8 0, .int .u8 0, .int .u8 0, .nilFunc, .pointer none, .int .i32 0, .int .i32 0] := by kernel_rfl
theorem tF188_0 : tF Try.prog 188 0 = some (0, 12) := by kernel_rfl
theorem tF188_1 : tF Try.prog 188 1 = some (1, 12) := by kernel_rfl
theorem tF188_2 : tF Try.prog 188 2 = some (2, 181) := by kernel_rfl
theorem tF188_3 : tF Try.prog 188 3 = some (3, 182) := by kernel_rfl
theorem tF188_4 : tF Try.prog 188 4 = some (4, 5) := by kernel_rfl
theorem tF188_5 : tF Try.prog 188 5 = some (5, 5) := by kernel_rfl
theorem tF188_6 : tF Try.prog 188 6 = some (6, 183) := by kernel_rfl
theorem tF188_7 : tF Try.prog 188 7 = some (7, 184) := by kernel_rfl
theorem tF188_8 : tF Try.prog 188 8 = some (8, 185) := by kernel_rfl
theorem tF188_9 : tF Try.prog 188 9 = some (9, 186) := by kernel_rfl
theorem tF188_10 : tF Try.prog 188 10 = some (10, 187) := by kernel_rfl
theorem tP188 : tP Try.prog 188 = some [(0, 1), (1, 1), (2, 1), (3, 1), (4, 1), (5, 1), (6, 1), (7, 1), (8, 1), (9, 1), (10, 1)] := by kernel_rfl
theorem tS189 : tS Try.prog 189 = some 11 := by kernel_rfl
theorem tA189 : tA Try.prog 189 = some true := by kernel_rfl
theorem tB189 : tB Try.prog 189 = some 48 := by kernel_rfl
theorem tZ189 : tZ Try.prog 189 = some [.int .u64 0, .int .u64 0, .int .u32 0, .int .u8 0, .int .u8 0, .int .u8 0, .int .u8 0, .nilFunc, .pointer none, .int .i32 0, .int .i32 0] := by kernel_rfl
theorem tF189_0 : tF Try.prog 189 0 = some (0, 12) := by kernel_rfl
theorem tF189_1 : tF Try.prog 189 1 = some (1, 12) := by kernel_rfl
theorem tF189_2 : tF Try.prog 189 2 = some (2, 181) := by kernel_rfl
theorem tF189_3 : tF Try.prog 189 3 = some (3, 182) := by kernel_rfl
theorem tF189_4 : tF Try.prog 189 4 = some (4, 5) := by kernel_rfl
theorem tF189_5 : tF Try.prog 189 5 = some (5, 5) := by kernel_rfl
theorem tF189_6 : tF Try.prog 189 6 = some (6, 183) := by kernel_rfl
theorem tF189_7 : tF Try.prog 189 7 = some (7, 184) := by kernel_rfl
theorem tF189_8 : tF Try.prog 189 8 = some (8, 185) := by kernel_rfl
theorem tF189_9 : tF Try.prog 189 9 = some (9, 186) := by kernel_rfl
theorem tF189_10 : tF Try.prog 189 10 = some (10, 187) := by kernel_rfl
theorem tP189 : tP Try.prog 189 = some [(0, 1), (1, 1), (2, 1), (3, 1), (4, 1), (5, 1), (6, 1), (7, 1), (8, 1), (9, 1), (10, 1)] := by kernel_rfl
theorem tS190 : tS Try.prog 190 = some 1 := by kernel_rfl
theorem tA190 : tA Try.prog 190 = some false := by kernel_rfl
theorem tB190 : tB Try.prog 190 = some 8 := by kernel_rfl
theorem tZ190 : tZ Try.prog 190 = some [.pointer none] := by kernel_rfl
def eqTab : TypeId → List Value → List Value → Option Bool
  | _, _, _ => none
theorem eqTab_ok : ∀ t us vs b, eqTab t us vs = some b → Try.prog.eqGuardType Try.prog.depth t = false ∧ ∀ w : World, (Op.equalIn 10000 t (.agg us.toArray) (.agg vs.toArray)).run Try.prog w = .ok b w := by
  intro t us vs b h
  unfold eqTab at h
  split at h
  · cases h
theorem mixed : Try.prog.follows .mixedOrders = true := by kernel_rfl
/-- what is known of the program at the outset -/
def E0 : Env Try.prog := ⟨eqTab, eqTab_ok, fun _ _ => none, by simp⟩
def cl0 : FuncId → List AV → Option AV := fun _ _ => none
attribute [push_cast] tS1 tA1 tB1 tZ1 tS2 tA2 tB2 tZ2 tU2 tS3 tA3 tB3 tZ3 tU3 tS4 tA4 tB4 tZ4 tU4 tS5 tA5 tB5 tZ5 tU5 tS6 tA6 tB6 tZ6 tU6 tS7 tA7 tB7 tZ7 tF7_0 tF7_1 tF7_2 tF7_3 tP7 tS9 tA9 tB9 tZ9 tU9 tS12 tA12 tB12 tZ12 tU12 tS13 tA13 tB13 tZ13 tF13_0 tF13_1 tP13 tS15 tA15 tB15 tZ15 tS16 tA16 tB16 tZ16 tS17 tA17 tB17 tZ17 tS18 tA18 tB18 tZ18 tF18_0 tP18 tS19 tA19 tB19 tZ19 tF19_0 tP19 tS21 tA21 tB21 tZ21 tU21 tS22 tA22 tB22 tZ22 tU22 tS23 tA23 tB23 tZ23 tE23 tR23 tU23 tS24 tA24 tB24 tZ24 tF24_0 tF24_1 tP24 tS25 tA25 tB25 tZ25 tF25_0 tF25_1 tP25 tS26 tA26 tB26 tZ26 tS27 tA27 tB27 tZ27 tS28 tA28 tB28 tZ28 tU28 tS29 tA29 tB29 tZ29 tS30 tA30 tB30 tZ30 tE30 tR30 tU30 tS31 tA31 tB31 tZ31 tS32 tA32 tB32 tZ32 tE32 tR32 tU32 tS33 tA33 tB33 tZ33 tF33_0 tF33_1 tF33_2 tF33_3 tP33 tS34 tA34 tB34 tZ34 tF34_0 tF34_1 tF34_2 tF34_3 tP34 tS36 tA36 tB36 tZ36 tS38 tA38 tB38 tZ38 tS39 tA39 tB39 tZ39 tS40 tA40 tB40 tZ40 tE40 tR40 tU40 tS41 tA41 tB41 tZ41 tU41 tS42 tA42 tB42 tZ42 tU42 tS43 tA43 tB43 tZ43 tF43_0 tF43_1 tF43_2 tF43_3 tF43_4 tF43_5 tF43_6 tP43 tS44 tA44 tB44 tZ44 tF44_0 tF44_1 tF44_2 tF44_3 tF44_4 tF44_5 tF44_6 tP44 tS45 tA45 tB45 tZ45 tS46 tA46 tB46 tZ46 tF46_0 tF46_1 tF46_2 tF46_3 tF46_4 tP46 tS47 tA47 tB47 tZ47 tF47_0 tF47_1 tF47_2 tF47_3 tF47_4 tP47 tS48 tA48 tB48 tZ48 tS49 tA49 tB49 tZ49 tU49 tS51 tA51 tB51 tZ51 tS52 tA52 tB52 tZ52 tS53 tA53 tB53 tZ53 tS54 tA54 tB54 tZ54 tS55 tA55 tB55 tZ55 tS56 tA56 tB56 tZ56 tS57 tA57 tB57 tZ57 tE57 tR57 tU57 tS58 tA58 tB58 tZ58 tE58 tR58 tU58 tS59 tA59 tB59 tZ59 tS60 tA60 tB60 tZ60 tS61 tA61 tB61 tZ61 tS62 tA62 tB62 tZ62 tS63 tA63 tB63 tZ63 tE63 tR63 tU63 tS64 tA64 tB64 tZ64 tE64 tR64 tU64 tS65 tA65 tB65 tZ65 tF65_0 tF65_1 tF65_2 tP65 tS66 tA66 tB66 tZ66 tF66_0 tF66_1 tF66_2 tP66 tS67 tA67 tB67 tZ67 tE67 tR67 tU67 tS68 tA68 tB68 tZ68 tF68_0 tF68_1 tF68_2 tF68_3 tF68_4 tF68_5 tP68 tS69 tA69 tB69 tZ69 tF69_0 tF69_1 tF69_2 tF69_3 tF69_4 tF69_5 tP69 tS71 tA71 tB71 tZ71 tS72 tA72 tB72 tZ72 tS73 tA73 tB73 tZ73 tS74 tA74 tB74 tZ74 tR74 tE74 tP74 tS76 tA76 tB76 tZ76 tS77 tA77 tB77 tZ77 tS78 tA78 tB78 tZ78 tS79 tA79 tB79 tZ79 tS80 tA80 tB80 tZ80 tE80 tR80 tU80 tS81 tA81 tB81 tZ81 tS82 tA82 tB82 tZ82 tF82_0 tF82_1 tP82 tS83 tA83 tB83 tZ83 tF83_0 tF83_1 tP83 tS84 tA84 tB84 tZ84 tF84_0 tF84_1 tF84_2 tF84_3 tF84_4 tF84_5 tF84_6 tP84 tS85 tA85 tB85 tZ85 tF85_0 tF85_1 tF85_2 tF85_3 tF85_4 tF85_5 tF85_6 tP85 tS86 tA86 tB86 tZ86 tE86 tR86 tU86 tS87 tA87 tB87 tZ87 tF87_0 tF87_1 tF87_2 tF87_3 tF87_4 tF87_5 tP87 tS88 tA88 tB88 tZ88 tF88_0 tF88_1 tF88_2 tF88_3 tF88_4 tF88_5 tP88 tS89 tA89 tB89 tZ89 tS90 tA90 tB90 tZ90 tS91 tA91 tB91 tZ91 tS92 tA92 tB92 tZ92 tS93 tA93 tB93 tZ93 tS94 tA94 tB94 tZ94 tF94_0 tF94_1 tF94_2 tF94_3 tP94 tS95 tA95 tB95 tZ95 tF95_0 tF95_1 tF95_2 tF95_3 tP95 tS96 tA96 tB96 tZ96 tS97 tA97 tB97 tZ97 tE97 tR97 tU97 tS98 tA98 tB98 tZ98 tS99 tA99 tB99 tZ99 tS100 tA100 tB100 tZ100 tU100 tS101 tA101 tB101 tZ101 tU101 tS102 tA102 tB102 tZ102 tS104 tA104 tB104 tZ104 tS105 tA105 tB105 tZ105 tS106 tA106 tB106 tZ106 tS107 tA107 tB107 tZ107 tS108 tA108 tB108 tZ108 tS109 tA109 tB109 tZ109 tS111 tA111 tB111 tZ111 tS112 tA112 tB112 tZ112 tS114 tA114 tB114 tZ114 tS115 tA115 tB115 tZ115 tS116 tA116 tB116 tZ116 tS117 tA117 tB117 tZ117 tS118 tA118 tB118 tZ118 tS120 tA120 tB120 tZ120 tS121 tA121 tB121 tZ121 tS122 tA122 tB122 tZ122 tS124 tA124 tB124 tZ124 tS126 tA126 tB126 tZ126 tS128 tA128 tB128 tZ128 tS129 tA129 tB129 tZ129 tS130 tA130 tB130 tZ130 tS131 tA131 tB131 tZ131 tS133 tA133 tB133 tZ133 tS134 tA134 tB134 tZ134 tS135 tA135 tB135 tZ135 tS136 tA136 tB136 tZ136 tS137 tA137 tB137 tZ137 tS138 tA138 tB138 tZ138 tS139 tA139 tB139 tZ139 tS140 tA140 tB140 tZ140 tS141 tA141 tB141 tZ141 tS142 tA142 tB142 tZ142 tS143 tA143 tB143 tZ143 tS144 tA144 tB144 tZ144 tS145 tA145 tB145 tZ145 tS146 tA146 tB146 tZ146 tS147 tA147 tB147 tZ147 tS148 tA148 tB148 tZ148 tS149 tA149 tB149 tZ149 tS150 tA150 tB150 tZ150 tS151 tA151 tB151 tZ151 tS152 tA152 tB152 tZ152 tS153 tA153 tB153 tZ153 tS154 tA154 tB154 tZ154 tS155 tA155 tB155 tZ155 tS157 tA157 tB157 tZ157 tS158 tA158 tB158 tZ158 tS159 tA159 tB159 tZ159 tS160 tA160 tB160 tZ160 tS161 tA161 tB161 tZ161 tS162 tA162 tB162 tZ162 tS163 tA163 tB163 tZ163 tS164 tA164 tB164 tZ164 tS165 tA165 tB165 tZ165 tS166 tA166 tB166 tZ166 tS167 tA167 tB167 tZ167 tS168 tA168 tB168 tZ168 tS169 tA169 tB169 tZ169 tS170 tA170 tB170 tZ170 tS171 tA171 tB171 tZ171 tS172 tA172 tB172 tZ172 tS173 tA173 tB173 tZ173 tS174 tA174 tB174 tZ174 tS175 tA175 tB175 tZ175 tF175_0 tF175_1 tF175_2 tF175_3 tP175 tS177 tA177 tB177 tZ177 tR177 tE177 tP177 tS178 tA178 tB178 tZ178 tF178_0 tP178 tS180 tA180 tB180 tZ180 tS181 tA181 tB181 tZ181 tU181 tS182 tA182 tB182 tZ182 tU182 tS183 tA183 tB183 tZ183 tU183 tS184 tA184 tB184 tZ184 tS185 tA185 tB185 tZ185 tS186 tA186 tB186 tZ186 tU186 tS187 tA187 tB187 tZ187 tU187 tS188 tA188 tB188 tZ188 tF188_0 tF188_1 tF188_2 tF188_3 tF188_4 tF188_5 tF188_6 tF188_7 tF188_8 tF188_9 tF188_10 tP188 tS189 tA189 tB189 tZ189 tF189_0 tF189_1 tF189_2 tF189_3 tF189_4 tF189_5 tF189_6 tF189_7 tF189_8 tF189_9 tF189_10 tP189 tS190 tA190 tB190 tZ190 eqTab
theorem E0_cl : E0.cl = cl0 := rfl
theorem E0_eq : E0.eq = eqTab := rfl
attribute [push_cast] E0_cl E0_eq cl0
end Go.Proofs.Ytiepahhneagjhaa
