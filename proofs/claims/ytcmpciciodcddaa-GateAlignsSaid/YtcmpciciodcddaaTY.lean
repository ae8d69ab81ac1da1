/- Facts on the types of the program. -/
import Derived.Test.YtcmpciciodcddaaProg
import Derived.Test.YtcmpciciodcddaaMC
namespace Go.Proofs.Ytcmpciciodcddaa
set_option linter.unusedVariables false

theorem tS1 : tS Try.prog 1 = some 1 := by kernel_rfl
theorem tA1 : tA Try.prog 1 = some false := by kernel_rfl
theorem tB1 : tB Try.prog 1 = some 8 := by kernel_rfl
theorem tZ1 : tZ Try.prog 1 = some [.nilFunc] := by kernel_rfl
theorem tS2 : tS Try.prog 2 = some 1 := by kernel_rfl
theorem tA2 : tA Try.prog 2 = some false := by kernel_rfl
theorem tB2 : tB Try.prog 2 = some 8 := by kernel_rfl
theorem tZ2 : tZ Try.prog 2 = some [.int .i64 0] := by kernel_rfl
theorem tU2 : Try.prog.underlying 2 = some (.int .i64) := by kernel_rfl
theorem tS3 : tS Try.prog 3 = some 1 := by kernel_rfl
theorem tA3 : tA Try.prog 3 = some false := by kernel_rfl
theorem tB3 : tB Try.prog 3 = some 8 := by kernel_rfl
theorem tZ3 : tZ Try.prog 3 = some [.int .i64 0] := by kernel_rfl
theorem tU3 : Try.prog.underlying 3 = some (.int .i64) := by kernel_rfl
theorem tS4 : tS Try.prog 4 = some 1 := by kernel_rfl
theorem tA4 : tA Try.prog 4 = some false := by kernel_rfl
theorem tB4 : tB Try.prog 4 = some 1 := by kernel_rfl
theorem tZ4 : tZ Try.prog 4 = some [.bool false] := by kernel_rfl
theorem tU4 : Try.prog.underlying 4 = some .bool := by kernel_rfl
theorem tS5 : tS Try.prog 5 = some 1 := by kernel_rfl
theorem tA5 : tA Try.prog 5 = some false := by kernel_rfl
theorem tB5 : tB Try.prog 5 = some 1 := by kernel_rfl
theorem tZ5 : tZ Try.prog 5 = some [.int .u8 0] := by kernel_rfl
theorem tU5 : Try.prog.underlying 5 = some (.int .u8) := by kernel_rfl
theorem tS6 : tS Try.prog 6 = some 1 := by kernel_rfl
theorem tA6 : tA Try.prog 6 = some false := by kernel_rfl
theorem tB6 : tB Try.prog 6 = some 1 := by kernel_rfl
theorem tZ6 : tZ Try.prog 6 = some [.int .u8 0] := by kernel_rfl
theorem tU6 : Try.prog.underlying 6 = some (.int .u8) := by kernel_rfl
theorem tS7 : tS Try.prog 7 = some 4 := by kernel_rfl
theorem tA7 : tA Try.prog 7 = some true := by kernel_rfl
theorem tB7 : tB Try.prog 7 = some 24 := by kernel_rfl
theorem tZ7 : tZ Try.prog 7 = some [.int .i64 0, .int .i64 0, .bool false, .int .u8 0] := by kernel_rfl
theorem tF7_0 : tF Try.prog 7 0 = some (0, 2) := by kernel_rfl
theorem tF7_1 : tF Try.prog 7 1 = some (1, 3) := by kernel_rfl
theorem tF7_2 : tF Try.prog 7 2 = some (2, 4) := by kernel_rfl
theorem tF7_3 : tF Try.prog 7 3 = some (3, 6) := by kernel_rfl
theorem tP7 : tP Try.prog 7 = some [(0, 1), (1, 1), (2, 1), (3, 1)] := by kernel_rfl
theorem tS9 : tS Try.prog 9 = some 1 := by kernel_rfl
theorem tA9 : tA Try.prog 9 = some false := by kernel_rfl
theorem tB9 : tB Try.prog 9 = some 16 := by kernel_rfl
theorem tZ9 : tZ Try.prog 9 = some [.string ⟨#[]⟩] := by kernel_rfl
theorem tU9 : Try.prog.underlying 9 = some .string := by kernel_rfl
theorem tS12 : tS Try.prog 12 = some 1 := by kernel_rfl
theorem tA12 : tA Try.prog 12 = some false := by kernel_rfl
theorem tB12 : tB Try.prog 12 = some 8 := by kernel_rfl
theorem tZ12 : tZ Try.prog 12 = some [.int .u64 0] := by kernel_rfl
theorem tU12 : Try.prog.underlying 12 = some (.int .u64) := by kernel_rfl
theorem tS13 : tS Try.prog 13 = some 2 := by kernel_rfl
theorem tA13 : tA Try.prog 13 = some true := by kernel_rfl
theorem tB13 : tB Try.prog 13 = some 24 := by kernel_rfl
theorem tZ13 : tZ Try.prog 13 = some [.string ⟨#[]⟩, .int .u64 0] := by kernel_rfl
theorem tF13_0 : tF Try.prog 13 0 = some (0, 9) := by kernel_rfl
theorem tF13_1 : tF Try.prog 13 1 = some (1, 12) := by kernel_rfl
theorem tP13 : tP Try.prog 13 = some [(0, 1), (1, 1)] := by kernel_rfl
theorem tS15 : tS Try.prog 15 = some 1 := by kernel_rfl
theorem tA15 : tA Try.prog 15 = some false := by kernel_rfl
theorem tB15 : tB Try.prog 15 = some 8 := by kernel_rfl
theorem tZ15 : tZ Try.prog 15 = some [.pointer none] := by kernel_rfl
theorem tS16 : tS Try.prog 16 = some 1 := by kernel_rfl
theorem tA16 : tA Try.prog 16 = some false := by kernel_rfl
theorem tB16 : tB Try.prog 16 = some 8 := by kernel_rfl
theorem tZ16 : tZ Try.prog 16 = some [.pointer none] := by kernel_rfl
theorem tS17 : tS Try.prog 17 = some 1 := by kernel_rfl
theorem tA17 : tA Try.prog 17 = some false := by kernel_rfl
theorem tB17 : tB Try.prog 17 = some 8 := by kernel_rfl
theorem tZ17 : tZ Try.prog 17 = some [.pointer none] := by kernel_rfl
theorem tS18 : tS Try.prog 18 = some 1 := by kernel_rfl
theorem tA18 : tA Try.prog 18 = some true := by kernel_rfl
theorem tB18 : tB Try.prog 18 = some 8 := by kernel_rfl
theorem tZ18 : tZ Try.prog 18 = some [.pointer none] := by kernel_rfl
theorem tF18_0 : tF Try.prog 18 0 = some (0, 17) := by kernel_rfl
theorem tP18 : tP Try.prog 18 = some [(0, 1)] := by kernel_rfl
theorem tS19 : tS Try.prog 19 = some 1 := by kernel_rfl
theorem tA19 : tA Try.prog 19 = some true := by kernel_rfl
theorem tB19 : tB Try.prog 19 = some 8 := by kernel_rfl
theorem tZ19 : tZ Try.prog 19 = some [.pointer none] := by kernel_rfl
theorem tF19_0 : tF Try.prog 19 0 = some (0, 17) := by kernel_rfl
theorem tP19 : tP Try.prog 19 = some [(0, 1)] := by kernel_rfl
theorem tS21 : tS Try.prog 21 = some 1 := by kernel_rfl
theorem tA21 : tA Try.prog 21 = some false := by kernel_rfl
theorem tB21 : tB Try.prog 21 = some 4 := by kernel_rfl
theorem tZ21 : tZ Try.prog 21 = some [.int .i32 0] := by kernel_rfl
theorem tU21 : Try.prog.underlying 21 = some (.int .i32) := by kernel_rfl
theorem tS22 : tS Try.prog 22 = some 1 := by kernel_rfl
theorem tA22 : tA Try.prog 22 = some false := by kernel_rfl
theorem tB22 : tB Try.prog 22 = some 24 := by kernel_rfl
theorem tZ22 : tZ Try.prog 22 = some [.slice none 0 0] := by kernel_rfl
theorem tE22 : tE Try.prog 22 = some 39 := by kernel_rfl
theorem tR22 : tR Try.prog 22 = none := by kernel_rfl
theorem tU22 : Try.prog.underlying 22 = some (.slice 39) := by kernel_rfl
theorem tS23 : tS Try.prog 23 = some 1 := by kernel_rfl
theorem tA23 : tA Try.prog 23 = some false := by kernel_rfl
theorem tB23 : tB Try.prog 23 = some 8 := by kernel_rfl
theorem tZ23 : tZ Try.prog 23 = some [.int .u64 0] := by kernel_rfl
theorem tU23 : Try.prog.underlying 23 = some (.int .u64) := by kernel_rfl
theorem tS24 : tS Try.prog 24 = some 3 := by kernel_rfl
theorem tA24 : tA Try.prog 24 = some true := by kernel_rfl
theorem tB24 : tB Try.prog 24 = some 40 := by kernel_rfl
theorem tZ24 : tZ Try.prog 24 = some [.slice none 0 0, .int .u64 0, .int .u64 0] := by kernel_rfl
theorem tF24_0 : tF Try.prog 24 0 = some (0, 22) := by kernel_rfl
theorem tF24_1 : tF Try.prog 24 1 = some (1, 23) := by kernel_rfl
theorem tF24_2 : tF Try.prog 24 2 = some (2, 23) := by kernel_rfl
theorem tP24 : tP Try.prog 24 = some [(0, 1), (1, 1), (2, 1)] := by kernel_rfl
theorem tS25 : tS Try.prog 25 = some 3 := by kernel_rfl
theorem tA25 : tA Try.prog 25 = some true := by kernel_rfl
theorem tB25 : tB Try.prog 25 = some 40 := by kernel_rfl
theorem tZ25 : tZ Try.prog 25 = some [.slice none 0 0, .int .u64 0, .int .u64 0] := by kernel_rfl
theorem tF25_0 : tF Try.prog 25 0 = some (0, 22) := by kernel_rfl
theorem tF25_1 : tF Try.prog 25 1 = some (1, 23) := by kernel_rfl
theorem tF25_2 : tF Try.prog 25 2 = some (2, 23) := by kernel_rfl
theorem tP25 : tP Try.prog 25 = some [(0, 1), (1, 1), (2, 1)] := by kernel_rfl
theorem tS26 : tS Try.prog 26 = some 3 := by kernel_rfl
theorem tA26 : tA Try.prog 26 = some true := by kernel_rfl
theorem tB26 : tB Try.prog 26 = some 24 := by kernel_rfl
theorem tZ26 : tZ Try.prog 26 = some [.int .i64 0, .int .i64 0, .int .i64 0] := by kernel_rfl
theorem tF26_0 : tF Try.prog 26 0 = some (0, 3) := by kernel_rfl
theorem tF26_1 : tF Try.prog 26 1 = some (1, 3) := by kernel_rfl
theorem tF26_2 : tF Try.prog 26 2 = some (2, 2) := by kernel_rfl
theorem tP26 : tP Try.prog 26 = some [(0, 1), (1, 1), (2, 1)] := by kernel_rfl
theorem tS27 : tS Try.prog 27 = some 3 := by kernel_rfl
theorem tA27 : tA Try.prog 27 = some true := by kernel_rfl
theorem tB27 : tB Try.prog 27 = some 24 := by kernel_rfl
theorem tZ27 : tZ Try.prog 27 = some [.int .i64 0, .int .i64 0, .int .i64 0] := by kernel_rfl
theorem tF27_0 : tF Try.prog 27 0 = some (0, 3) := by kernel_rfl
theorem tF27_1 : tF Try.prog 27 1 = some (1, 3) := by kernel_rfl
theorem tF27_2 : tF Try.prog 27 2 = some (2, 2) := by kernel_rfl
theorem tP27 : tP Try.prog 27 = some [(0, 1), (1, 1), (2, 1)] := by kernel_rfl
theorem tS28 : tS Try.prog 28 = some 5 := by kernel_rfl
theorem tA28 : tA Try.prog 28 = some true := by kernel_rfl
theorem tB28 : tB Try.prog 28 = some 40 := by kernel_rfl
theorem tZ28 : tZ Try.prog 28 = some [.int .i64 0, .int .i64 0, .int .i64 0, .int .i64 0, .int .u64 0] := by kernel_rfl
theorem tF28_0 : tF Try.prog 28 0 = some (0, 3) := by kernel_rfl
theorem tF28_1 : tF Try.prog 28 1 = some (1, 27) := by kernel_rfl
theorem tF28_2 : tF Try.prog 28 2 = some (4, 23) := by kernel_rfl
theorem tP28 : tP Try.prog 28 = some [(0, 1), (1, 3), (4, 1)] := by kernel_rfl
theorem tS29 : tS Try.prog 29 = some 5 := by kernel_rfl
theorem tA29 : tA Try.prog 29 = some true := by kernel_rfl
theorem tB29 : tB Try.prog 29 = some 40 := by kernel_rfl
theorem tZ29 : tZ Try.prog 29 = some [.int .i64 0, .int .i64 0, .int .i64 0, .int .i64 0, .int .u64 0] := by kernel_rfl
theorem tF29_0 : tF Try.prog 29 0 = some (0, 3) := by kernel_rfl
theorem tF29_1 : tF Try.prog 29 1 = some (1, 27) := by kernel_rfl
theorem tF29_2 : tF Try.prog 29 2 = some (4, 23) := by kernel_rfl
theorem tP29 : tP Try.prog 29 = some [(0, 1), (1, 3), (4, 1)] := by kernel_rfl
theorem tS30 : tS Try.prog 30 = some 1 := by kernel_rfl
theorem tA30 : tA Try.prog 30 = some false := by kernel_rfl
theorem tB30 : tB Try.prog 30 = some 8 := by kernel_rfl
theorem tZ30 : tZ Try.prog 30 = some [.nilFunc] := by kernel_rfl
theorem tS31 : tS Try.prog 31 = some 1 := by kernel_rfl
theorem tA31 : tA Try.prog 31 = some false := by kernel_rfl
theorem tB31 : tB Try.prog 31 = some 8 := by kernel_rfl
theorem tZ31 : tZ Try.prog 31 = some [.nilFunc] := by kernel_rfl
theorem tS32 : tS Try.prog 32 = some 1 := by kernel_rfl
theorem tA32 : tA Try.prog 32 = some false := by kernel_rfl
theorem tB32 : tB Try.prog 32 = some 8 := by kernel_rfl
theorem tZ32 : tZ Try.prog 32 = some [.nilFunc] := by kernel_rfl
theorem tS33 : tS Try.prog 33 = some 1 := by kernel_rfl
theorem tA33 : tA Try.prog 33 = some false := by kernel_rfl
theorem tB33 : tB Try.prog 33 = some 8 := by kernel_rfl
theorem tZ33 : tZ Try.prog 33 = some [.int .i64 0] := by kernel_rfl
theorem tU33 : Try.prog.underlying 33 = some (.int .i64) := by kernel_rfl
theorem tS35 : tS Try.prog 35 = some 1 := by kernel_rfl
theorem tA35 : tA Try.prog 35 = some false := by kernel_rfl
theorem tB35 : tB Try.prog 35 = some 8 := by kernel_rfl
theorem tZ35 : tZ Try.prog 35 = some [.nilFunc] := by kernel_rfl
theorem tS36 : tS Try.prog 36 = some 1 := by kernel_rfl
theorem tA36 : tA Try.prog 36 = some false := by kernel_rfl
theorem tB36 : tB Try.prog 36 = some 8 := by kernel_rfl
theorem tZ36 : tZ Try.prog 36 = some [.nilFunc] := by kernel_rfl
theorem tS37 : tS Try.prog 37 = some 1 := by kernel_rfl
theorem tA37 : tA Try.prog 37 = some false := by kernel_rfl
theorem tB37 : tB Try.prog 37 = some 24 := by kernel_rfl
theorem tZ37 : tZ Try.prog 37 = some [.slice none 0 0] := by kernel_rfl
theorem tE37 : tE Try.prog 37 = some 29 := by kernel_rfl
theorem tR37 : tR Try.prog 37 = none := by kernel_rfl
theorem tU37 : Try.prog.underlying 37 = some (.slice 29) := by kernel_rfl
theorem tS38 : tS Try.prog 38 = some 4 := by kernel_rfl
theorem tA38 : tA Try.prog 38 = some true := by kernel_rfl
theorem tB38 : tB Try.prog 38 = some 40 := by kernel_rfl
theorem tZ38 : tZ Try.prog 38 = some [.slice none 0 0, .int .u64 0, .bool false, .bool false] := by kernel_rfl
theorem tF38_0 : tF Try.prog 38 0 = some (0, 37) := by kernel_rfl
theorem tF38_1 : tF Try.prog 38 1 = some (1, 23) := by kernel_rfl
theorem tF38_2 : tF Try.prog 38 2 = some (2, 4) := by kernel_rfl
theorem tF38_3 : tF Try.prog 38 3 = some (3, 4) := by kernel_rfl
theorem tP38 : tP Try.prog 38 = some [(0, 1), (1, 1), (2, 1), (3, 1)] := by kernel_rfl
theorem tS39 : tS Try.prog 39 = some 4 := by kernel_rfl
theorem tA39 : tA Try.prog 39 = some true := by kernel_rfl
theorem tB39 : tB Try.prog 39 = some 40 := by kernel_rfl
theorem tZ39 : tZ Try.prog 39 = some [.slice none 0 0, .int .u64 0, .bool false, .bool false] := by kernel_rfl
theorem tF39_0 : tF Try.prog 39 0 = some (0, 37) := by kernel_rfl
theorem tF39_1 : tF Try.prog 39 1 = some (1, 23) := by kernel_rfl
theorem tF39_2 : tF Try.prog 39 2 = some (2, 4) := by kernel_rfl
theorem tF39_3 : tF Try.prog 39 3 = some (3, 4) := by kernel_rfl
theorem tP39 : tP Try.prog 39 = some [(0, 1), (1, 1), (2, 1), (3, 1)] := by kernel_rfl
theorem tS40 : tS Try.prog 40 = some 1 := by kernel_rfl
theorem tA40 : tA Try.prog 40 = some false := by kernel_rfl
theorem tB40 : tB Try.prog 40 = some 8 := by kernel_rfl
theorem tZ40 : tZ Try.prog 40 = some [.nilFunc] := by kernel_rfl
theorem tS41 : tS Try.prog 41 = some 1 := by kernel_rfl
theorem tA41 : tA Try.prog 41 = some false := by kernel_rfl
theorem tB41 : tB Try.prog 41 = some 8 := by kernel_rfl
theorem tZ41 : tZ Try.prog 41 = some [.nilFunc] := by kernel_rfl
theorem tS42 : tS Try.prog 42 = some 1 := by kernel_rfl
theorem tA42 : tA Try.prog 42 = some false := by kernel_rfl
theorem tB42 : tB Try.prog 42 = some 8 := by kernel_rfl
theorem tZ42 : tZ Try.prog 42 = some [.nilFunc] := by kernel_rfl
theorem tS44 : tS Try.prog 44 = some 1 := by kernel_rfl
theorem tA44 : tA Try.prog 44 = some false := by kernel_rfl
theorem tB44 : tB Try.prog 44 = some 8 := by kernel_rfl
theorem tZ44 : tZ Try.prog 44 = some [.nilFunc] := by kernel_rfl
theorem tS45 : tS Try.prog 45 = some 1 := by kernel_rfl
theorem tA45 : tA Try.prog 45 = some false := by kernel_rfl
theorem tB45 : tB Try.prog 45 = some 24 := by kernel_rfl
theorem tZ45 : tZ Try.prog 45 = some [.slice none 0 0] := by kernel_rfl
theorem tE45 : tE Try.prog 45 = some 3 := by kernel_rfl
theorem tR45 : tR Try.prog 45 = none := by kernel_rfl
theorem tU45 : Try.prog.underlying 45 = some (.slice 3) := by kernel_rfl
theorem tS46 : tS Try.prog 46 = some 1 := by kernel_rfl
theorem tA46 : tA Try.prog 46 = some false := by kernel_rfl
theorem tB46 : tB Try.prog 46 = some 8 := by kernel_rfl
theorem tZ46 : tZ Try.prog 46 = some [.nilFunc] := by kernel_rfl
theorem tS47 : tS Try.prog 47 = some 1 := by kernel_rfl
theorem tA47 : tA Try.prog 47 = some false := by kernel_rfl
theorem tB47 : tB Try.prog 47 = some 8 := by kernel_rfl
theorem tZ47 : tZ Try.prog 47 = some [.nilFunc] := by kernel_rfl
theorem tS48 : tS Try.prog 48 = some 1 := by kernel_rfl
theorem tA48 : tA Try.prog 48 = some false := by kernel_rfl
theorem tB48 : tB Try.prog 48 = some 8 := by kernel_rfl
theorem tZ48 : tZ Try.prog 48 = some [.nilFunc] := by kernel_rfl
theorem tS49 : tS Try.prog 49 = some 1 := by kernel_rfl
theorem tA49 : tA Try.prog 49 = some false := by kernel_rfl
theorem tB49 : tB Try.prog 49 = some 8 := by kernel_rfl
theorem tZ49 : tZ Try.prog 49 = some [.nilFunc] := by kernel_rfl
theorem tS50 : tS Try.prog 50 = some 1 := by kernel_rfl
theorem tA50 : tA Try.prog 50 = some false := by kernel_rfl
theorem tB50 : tB Try.prog 50 = some 8 := by kernel_rfl
theorem tZ50 : tZ Try.prog 50 = some [.nilFunc] := by kernel_rfl
theorem tS51 : tS Try.prog 51 = some 1 := by kernel_rfl
theorem tA51 : tA Try.prog 51 = some false := by kernel_rfl
theorem tB51 : tB Try.prog 51 = some 24 := by kernel_rfl
theorem tZ51 : tZ Try.prog 51 = some [.slice none 0 0] := by kernel_rfl
theorem tE51 : tE Try.prog 51 = some 54 := by kernel_rfl
theorem tR51 : tR Try.prog 51 = none := by kernel_rfl
theorem tU51 : Try.prog.underlying 51 = some (.slice 54) := by kernel_rfl
theorem tS52 : tS Try.prog 52 = some 1 := by kernel_rfl
theorem tA52 : tA Try.prog 52 = some false := by kernel_rfl
theorem tB52 : tB Try.prog 52 = some 24 := by kernel_rfl
theorem tZ52 : tZ Try.prog 52 = some [.slice none 0 0] := by kernel_rfl
theorem tE52 : tE Try.prog 52 = some 37 := by kernel_rfl
theorem tR52 : tR Try.prog 52 = none := by kernel_rfl
theorem tU52 : Try.prog.underlying 52 = some (.slice 37) := by kernel_rfl
theorem tS53 : tS Try.prog 53 = some 7 := by kernel_rfl
theorem tA53 : tA Try.prog 53 = some true := by kernel_rfl
theorem tB53 : tB Try.prog 53 = some 56 := by kernel_rfl
theorem tZ53 : tZ Try.prog 53 = some [.int .i64 0, .int .i64 0, .int .i64 0, .int .i64 0, .int .i64 0, .int .i64 0, .int .u64 0] := by kernel_rfl
theorem tF53_0 : tF Try.prog 53 0 = some (0, 3) := by kernel_rfl
theorem tF53_1 : tF Try.prog 53 1 = some (1, 3) := by kernel_rfl
theorem tF53_2 : tF Try.prog 53 2 = some (2, 29) := by kernel_rfl
theorem tP53 : tP Try.prog 53 = some [(0, 1), (1, 1), (2, 5)] := by kernel_rfl
theorem tS54 : tS Try.prog 54 = some 7 := by kernel_rfl
theorem tA54 : tA Try.prog 54 = some true := by kernel_rfl
theorem tB54 : tB Try.prog 54 = some 56 := by kernel_rfl
theorem tZ54 : tZ Try.prog 54 = some [.int .i64 0, .int .i64 0, .int .i64 0, .int .i64 0, .int .i64 0, .int .i64 0, .int .u64 0] := by kernel_rfl
theorem tF54_0 : tF Try.prog 54 0 = some (0, 3) := by kernel_rfl
theorem tF54_1 : tF Try.prog 54 1 = some (1, 3) := by kernel_rfl
theorem tF54_2 : tF Try.prog 54 2 = some (2, 29) := by kernel_rfl
theorem tP54 : tP Try.prog 54 = some [(0, 1), (1, 1), (2, 5)] := by kernel_rfl
theorem tS55 : tS Try.prog 55 = some 1 := by kernel_rfl
theorem tA55 : tA Try.prog 55 = some false := by kernel_rfl
theorem tB55 : tB Try.prog 55 = some 8 := by kernel_rfl
theorem tZ55 : tZ Try.prog 55 = some [.nilFunc] := by kernel_rfl
theorem tS56 : tS Try.prog 56 = some 1 := by kernel_rfl
theorem tA56 : tA Try.prog 56 = some false := by kernel_rfl
theorem tB56 : tB Try.prog 56 = some 8 := by kernel_rfl
theorem tZ56 : tZ Try.prog 56 = some [.nilFunc] := by kernel_rfl
theorem tS57 : tS Try.prog 57 = some 1 := by kernel_rfl
theorem tA57 : tA Try.prog 57 = some false := by kernel_rfl
theorem tB57 : tB Try.prog 57 = some 8 := by kernel_rfl
theorem tZ57 : tZ Try.prog 57 = some [.nilFunc] := by kernel_rfl
theorem tS58 : tS Try.prog 58 = some 1 := by kernel_rfl
theorem tA58 : tA Try.prog 58 = some false := by kernel_rfl
theorem tB58 : tB Try.prog 58 = some 8 := by kernel_rfl
theorem tZ58 : tZ Try.prog 58 = some [.nilFunc] := by kernel_rfl
theorem tS59 : tS Try.prog 59 = some 1 := by kernel_rfl
theorem tA59 : tA Try.prog 59 = some false := by kernel_rfl
theorem tB59 : tB Try.prog 59 = some 8 := by kernel_rfl
theorem tZ59 : tZ Try.prog 59 = some [.nilFunc] := by kernel_rfl
theorem tS60 : tS Try.prog 60 = some 1 := by kernel_rfl
theorem tA60 : tA Try.prog 60 = some false := by kernel_rfl
theorem tB60 : tB Try.prog 60 = some 8 := by kernel_rfl
theorem tZ60 : tZ Try.prog 60 = some [.nilFunc] := by kernel_rfl
theorem tS61 : tS Try.prog 61 = some 1 := by kernel_rfl
theorem tA61 : tA Try.prog 61 = some false := by kernel_rfl
theorem tB61 : tB Try.prog 61 = some 8 := by kernel_rfl
theorem tZ61 : tZ Try.prog 61 = some [.nilFunc] := by kernel_rfl
theorem tS62 : tS Try.prog 62 = some 1 := by kernel_rfl
theorem tA62 : tA Try.prog 62 = some false := by kernel_rfl
theorem tB62 : tB Try.prog 62 = some 8 := by kernel_rfl
theorem tZ62 : tZ Try.prog 62 = some [.nilFunc] := by kernel_rfl
theorem tS63 : tS Try.prog 63 = some 1 := by kernel_rfl
theorem tA63 : tA Try.prog 63 = some false := by kernel_rfl
theorem tB63 : tB Try.prog 63 = some 8 := by kernel_rfl
theorem tZ63 : tZ Try.prog 63 = some [.nilFunc] := by kernel_rfl
theorem tS64 : tS Try.prog 64 = some 1 := by kernel_rfl
theorem tA64 : tA Try.prog 64 = some false := by kernel_rfl
theorem tB64 : tB Try.prog 64 = some 8 := by kernel_rfl
theorem tZ64 : tZ Try.prog 64 = some [.pointer none] := by kernel_rfl
theorem tS65 : tS Try.prog 65 = some 1 := by kernel_rfl
theorem tA65 : tA Try.prog 65 = some false := by kernel_rfl
theorem tB65 : tB Try.prog 65 = some 8 := by kernel_rfl
theorem tZ65 : tZ Try.prog 65 = some [.nilFunc] := by kernel_rfl
theorem tS66 : tS Try.prog 66 = some 1 := by kernel_rfl
theorem tA66 : tA Try.prog 66 = some false := by kernel_rfl
theorem tB66 : tB Try.prog 66 = some 8 := by kernel_rfl
theorem tZ66 : tZ Try.prog 66 = some [.pointer none] := by kernel_rfl
theorem tS68 : tS Try.prog 68 = some 1 := by kernel_rfl
theorem tA68 : tA Try.prog 68 = some false := by kernel_rfl
theorem tB68 : tB Try.prog 68 = some 8 := by kernel_rfl
theorem tZ68 : tZ Try.prog 68 = some [.nilFunc] := by kernel_rfl
theorem tS69 : tS Try.prog 69 = some 1 := by kernel_rfl
theorem tA69 : tA Try.prog 69 = some false := by kernel_rfl
theorem tB69 : tB Try.prog 69 = some 8 := by kernel_rfl
theorem tZ69 : tZ Try.prog 69 = some [.nilFunc] := by kernel_rfl
theorem tS70 : tS Try.prog 70 = some 1 := by kernel_rfl
theorem tA70 : tA Try.prog 70 = some false := by kernel_rfl
theorem tB70 : tB Try.prog 70 = some 8 := by kernel_rfl
theorem tZ70 : tZ Try.prog 70 = some [.nilFunc] := by kernel_rfl
theorem tS71 : tS Try.prog 71 = some 1 := by kernel_rfl
theorem tA71 : tA Try.prog 71 = some false := by kernel_rfl
theorem tB71 : tB Try.prog 71 = some 8 := by kernel_rfl
theorem tZ71 : tZ Try.prog 71 = some [.nilFunc] := by kernel_rfl
theorem tS72 : tS Try.prog 72 = some 1 := by kernel_rfl
theorem tA72 : tA Try.prog 72 = some false := by kernel_rfl
theorem tB72 : tB Try.prog 72 = some 8 := by kernel_rfl
theorem tZ72 : tZ Try.prog 72 = some [.nilFunc] := by kernel_rfl
theorem tS73 : tS Try.prog 73 = some 1 := by kernel_rfl
theorem tA73 : tA Try.prog 73 = some false := by kernel_rfl
theorem tB73 : tB Try.prog 73 = some 8 := by kernel_rfl
theorem tZ73 : tZ Try.prog 73 = some [.nilFunc] := by kernel_rfl
theorem tS74 : tS Try.prog 74 = some 1 := by kernel_rfl
theorem tA74 : tA Try.prog 74 = some false := by kernel_rfl
theorem tB74 : tB Try.prog 74 = some 8 := by kernel_rfl
theorem tZ74 : tZ Try.prog 74 = some [.nilFunc] := by kernel_rfl
theorem tS75 : tS Try.prog 75 = some 1 := by kernel_rfl
theorem tA75 : tA Try.prog 75 = some false := by kernel_rfl
theorem tB75 : tB Try.prog 75 = some 8 := by kernel_rfl
theorem tZ75 : tZ Try.prog 75 = some [.nilFunc] := by kernel_rfl
theorem tS76 : tS Try.prog 76 = some 1 := by kernel_rfl
theorem tA76 : tA Try.prog 76 = some false := by kernel_rfl
theorem tB76 : tB Try.prog 76 = some 8 := by kernel_rfl
theorem tZ76 : tZ Try.prog 76 = some [.nilFunc] := by kernel_rfl
theorem tS77 : tS Try.prog 77 = some 1 := by kernel_rfl
theorem tA77 : tA Try.prog 77 = some false := by kernel_rfl
theorem tB77 : tB Try.prog 77 = some 24 := by kernel_rfl
theorem tZ77 : tZ Try.prog 77 = some [.slice none 0 0] := by kernel_rfl
theorem tE77 : tE Try.prog 77 = some 36 := by kernel_rfl
theorem tR77 : tR Try.prog 77 = none := by kernel_rfl
theorem tU77 : Try.prog.underlying 77 = some (.slice 36) := by kernel_rfl
theorem tS78 : tS Try.prog 78 = some 1 := by kernel_rfl
theorem tA78 : tA Try.prog 78 = some false := by kernel_rfl
theorem tB78 : tB Try.prog 78 = some 8 := by kernel_rfl
theorem tZ78 : tZ Try.prog 78 = some [.nilFunc] := by kernel_rfl
theorem tS79 : tS Try.prog 79 = some 1 := by kernel_rfl
theorem tA79 : tA Try.prog 79 = some false := by kernel_rfl
theorem tB79 : tB Try.prog 79 = some 8 := by kernel_rfl
theorem tZ79 : tZ Try.prog 79 = some [.nilFunc] := by kernel_rfl
theorem tS80 : tS Try.prog 80 = some 1 := by kernel_rfl
theorem tA80 : tA Try.prog 80 = some false := by kernel_rfl
theorem tB80 : tB Try.prog 80 = some 8 := by kernel_rfl
theorem tZ80 : tZ Try.prog 80 = some [.nilFunc] := by kernel_rfl
theorem tS81 : tS Try.prog 81 = some 1 := by kernel_rfl
theorem tA81 : tA Try.prog 81 = some false := by kernel_rfl
theorem tB81 : tB Try.prog 81 = some 8 := by kernel_rfl
theorem tZ81 : tZ Try.prog 81 = some [.nilFunc] := by kernel_rfl
theorem tS82 : tS Try.prog 82 = some 1 := by kernel_rfl
theorem tA82 : tA Try.prog 82 = some false := by kernel_rfl
theorem tB82 : tB Try.prog 82 = some 8 := by kernel_rfl
theorem tZ82 : tZ Try.prog 82 = some [.nilFunc] := by kernel_rfl
theorem tS83 : tS Try.prog 83 = some 1 := by kernel_rfl
theorem tA83 : tA Try.prog 83 = some false := by kernel_rfl
theorem tB83 : tB Try.prog 83 = some 8 := by kernel_rfl
theorem tZ83 : tZ Try.prog 83 = some [.nilFunc] := by kernel_rfl
theorem tS84 : tS Try.prog 84 = some 1 := by kernel_rfl
theorem tA84 : tA Try.prog 84 = some false := by kernel_rfl
theorem tB84 : tB Try.prog 84 = some 8 := by kernel_rfl
theorem tZ84 : tZ Try.prog 84 = some [.nilFunc] := by kernel_rfl
theorem tS85 : tS Try.prog 85 = some 1 := by kernel_rfl
theorem tA85 : tA Try.prog 85 = some false := by kernel_rfl
theorem tB85 : tB Try.prog 85 = some 8 := by kernel_rfl
theorem tZ85 : tZ Try.prog 85 = some [.nilFunc] := by kernel_rfl
theorem tS86 : tS Try.prog 86 = some 4 := by kernel_rfl
theorem tA86 : tA Try.prog 86 = some true := by kernel_rfl
theorem tB86 : tB Try.prog 86 = some 40 := by kernel_rfl
theorem tZ86 : tZ Try.prog 86 = some [.pointer none, .pointer none, .pointer none, .string ⟨#[]⟩] := by kernel_rfl
theorem tF86_0 : tF Try.prog 86 0 = some (0, 17) := by kernel_rfl
theorem tF86_1 : tF Try.prog 86 1 = some (1, 17) := by kernel_rfl
theorem tF86_2 : tF Try.prog 86 2 = some (2, 17) := by kernel_rfl
theorem tF86_3 : tF Try.prog 86 3 = some (3, 9) := by kernel_rfl
theorem tP86 : tP Try.prog 86 = some [(0, 1), (1, 1), (2, 1), (3, 1)] := by kernel_rfl
theorem tS88 : tS Try.prog 88 = some 0 := by kernel_rfl
theorem tA88 : tA Try.prog 88 = some true := by kernel_rfl
theorem tB88 : tB Try.prog 88 = some 0 := by kernel_rfl
theorem tZ88 : tZ Try.prog 88 = some [] := by kernel_rfl
theorem tR88 : tR Try.prog 88 = some (0, 16) := by kernel_rfl
theorem tE88 : tE Try.prog 88 = none := by kernel_rfl
theorem tP88 : tP Try.prog 88 = none := by kernel_rfl
theorem tS89 : tS Try.prog 89 = some 0 := by kernel_rfl
theorem tA89 : tA Try.prog 89 = some true := by kernel_rfl
theorem tB89 : tB Try.prog 89 = some 0 := by kernel_rfl
theorem tZ89 : tZ Try.prog 89 = some [] := by kernel_rfl
theorem tF89_0 : tF Try.prog 89 0 = some (0, 88) := by kernel_rfl
theorem tP89 : tP Try.prog 89 = some [(0, 0)] := by kernel_rfl
theorem tS91 : tS Try.prog 91 = some 1 := by kernel_rfl
theorem tA91 : tA Try.prog 91 = some false := by kernel_rfl
theorem tB91 : tB Try.prog 91 = some 8 := by kernel_rfl
theorem tZ91 : tZ Try.prog 91 = some [.nilFunc] := by kernel_rfl
theorem tS92 : tS Try.prog 92 = some 1 := by kernel_rfl
theorem tA92 : tA Try.prog 92 = some false := by kernel_rfl
theorem tB92 : tB Try.prog 92 = some 4 := by kernel_rfl
theorem tZ92 : tZ Try.prog 92 = some [.int .u32 0] := by kernel_rfl
theorem tU92 : Try.prog.underlying 92 = some (.int .u32) := by kernel_rfl
theorem tS93 : tS Try.prog 93 = some 1 := by kernel_rfl
theorem tA93 : tA Try.prog 93 = some false := by kernel_rfl
theorem tB93 : tB Try.prog 93 = some 1 := by kernel_rfl
theorem tZ93 : tZ Try.prog 93 = some [.int .u8 0] := by kernel_rfl
theorem tU93 : Try.prog.underlying 93 = some (.int .u8) := by kernel_rfl
theorem tS94 : tS Try.prog 94 = some 1 := by kernel_rfl
theorem tA94 : tA Try.prog 94 = some false := by kernel_rfl
theorem tB94 : tB Try.prog 94 = some 1 := by kernel_rfl
theorem tZ94 : tZ Try.prog 94 = some [.int .u8 0] := by kernel_rfl
theorem tU94 : Try.prog.underlying 94 = some (.int .u8) := by kernel_rfl
theorem tS95 : tS Try.prog 95 = some 1 := by kernel_rfl
theorem tA95 : tA Try.prog 95 = some false := by kernel_rfl
theorem tB95 : tB Try.prog 95 = some 8 := by kernel_rfl
theorem tZ95 : tZ Try.prog 95 = some [.nilFunc] := by kernel_rfl
theorem tS96 : tS Try.prog 96 = some 1 := by kernel_rfl
theorem tA96 : tA Try.prog 96 = some false := by kernel_rfl
theorem tB96 : tB Try.prog 96 = some 8 := by kernel_rfl
theorem tZ96 : tZ Try.prog 96 = some [.pointer none] := by kernel_rfl
theorem tS97 : tS Try.prog 97 = some 1 := by kernel_rfl
theorem tA97 : tA Try.prog 97 = some false := by kernel_rfl
theorem tB97 : tB Try.prog 97 = some 4 := by kernel_rfl
theorem tZ97 : tZ Try.prog 97 = some [.int .i32 0] := by kernel_rfl
theorem tU97 : Try.prog.underlying 97 = some (.int .i32) := by kernel_rfl
theorem tS98 : tS Try.prog 98 = some 1 := by kernel_rfl
theorem tA98 : tA Try.prog 98 = some false := by kernel_rfl
theorem tB98 : tB Try.prog 98 = some 4 := by kernel_rfl
theorem tZ98 : tZ Try.prog 98 = some [.int .i32 0] := by kernel_rfl
theorem tU98 : Try.prog.underlying 98 = some (.int .i32) := by kernel_rfl
theorem tS99 : tS Try.prog 99 = some 11 := by kernel_rfl
theorem tA99 : tA Try.prog 99 = some true := by kernel_rfl
theorem tB99 : tB Try.prog 99 = some 48 := by kernel_rfl
theorem tZ99 : tZ Try.prog 99 = some [.int .u64 0, .int .u64 0, .int .u32 0, .int .u8 0, .int .u8 0, .int .u8 0, .int .u8 0, .nilFunc, .pointer none, .int .i32 0, .int .i32 0] := by kernel_rfl
theorem tF99_0 : tF Try.prog 99 0 = some (0, 12) := by kernel_rfl
theorem tF99_1 : tF Try.prog 99 1 = some (1, 12) := by kernel_rfl
theorem tF99_2 : tF Try.prog 99 2 = some (2, 92) := by kernel_rfl
theorem tF99_3 : tF Try.prog 99 3 = some (3, 93) := by kernel_rfl
theorem tF99_4 : tF Try.prog 99 4 = some (4, 5) := by kernel_rfl
theorem tF99_5 : tF Try.prog 99 5 = some (5, 5) := by kernel_rfl
theorem tF99_6 : tF Try.prog 99 6 = some (6, 94) := by kernel_rfl
theorem tF99_7 : tF Try.prog 99 7 = some (7, 95) := by kernel_rfl
theorem tF99_8 : tF Try.prog 99 8 = some (8, 96) := by kernel_rfl
theorem tF99_9 : tF Try.prog 99 9 = some (9, 97) := by kernel_rfl
theorem tF99_10 : tF Try.prog 99 10 = some (10, 98) := by kernel_rfl
theorem tP99 : tP Try.prog 99 = some [(0, 1), (1, 1), (2, 1), (3, 1), (4, 1), (5, 1), (6, 1), (7, 1), (8, 1), (9, 1), (10, 1)] := by kernel_rfl
theorem tS100 : tS Try.prog 100 = some 11 := by kernel_rfl
theorem tA100 : tA Try.prog 100 = some true := by kernel_rfl
theorem tB100 : tB Try.prog 100 = some 48 := by kernel_rfl
theorem tZ100 : tZ Try.prog 100 = some [.int .u64 0, .int .u64 0, .int .u32 0, .int .u8 0, .int .u8 0, .int .u8 0, .int .u8 0, .nilFunc, .pointer none, .int .i32 0, .int .i32 0] := by kernel_rfl
theorem tF100_0 : tF Try.prog 100 0 = some (0, 12) := by kernel_rfl
theorem tF100_1 : tF Try.prog 100 1 = some (1, 12) := by kernel_rfl
theorem tF100_2 : tF Try.prog 100 2 = some (2, 92) := by kernel_rfl
theorem tF100_3 : tF Try.prog 100 3 = some (3, 93) := by kernel_rfl
theorem tF100_4 : tF Try.prog 100 4 = some (4, 5) := by kernel_rfl
theorem tF100_5 : tF Try.prog 100 5 = some (5, 5) := by kernel_rfl
theorem tF100_6 : tF Try.prog 100 6 = some (6, 94) := by kernel_rfl
theorem tF100_7 : tF Try.prog 100 7 = some (7, 95) := by kernel_rfl
theorem tF100_8 : tF Try.prog 100 8 = some (8, 96) := by kernel_rfl
theorem tF100_9 : tF Try.prog 100 9 = some (9, 97) := by kernel_rfl
theorem tF100_10 : tF Try.prog 100 10 = some (10, 98) := by kernel_rfl
theorem tP100 : tP Try.prog 100 = some [(0, 1), (1, 1), (2, 1), (3, 1), (4, 1), (5, 1), (6, 1), (7, 1), (8, 1), (9, 1), (10, 1)] := by kernel_rfl
theorem tS101 : tS Try.prog 101 = some 1 := by kernel_rfl
theorem tA101 : tA Try.prog 101 = some false := by kernel_rfl
theorem tB101 : tB Try.prog 101 = some 8 := by kernel_rfl
theorem tZ101 : tZ Try.prog 101 = some [.pointer none] := by kernel_rfl
set_option maxHeartbeats 1000000 in
theorem eqT27 (a0 b0 a1 b1 a2 b2 : Int) (w : World) : (Op.equalIn 10000 27 (.agg #[.int .i64 a0, .int .i64 a1, .int .i64 a2]) (.agg #[.int .i64 b0, .int .i64 b1, .int .i64 b2])).run Try.prog w = .ok ((decide (a0 = b0) && (decide (a1 = b1) && decide (a2 = b2)))) w := by
  simp [go_sem, Try.underlying2, Try.underlying3, Try.underlying27]
  (repeat' split) <;> simp_all
set_option maxHeartbeats 1000000 in
theorem eqT29 (a0 b0 a1 b1 a2 b2 a3 b3 a4 b4 : Int) (w : World) : (Op.equalIn 10000 29 (.agg #[.int .i64 a0, .int .i64 a1, .int .i64 a2, .int .i64 a3, .int .u64 a4]) (.agg #[.int .i64 b0, .int .i64 b1, .int .i64 b2, .int .i64 b3, .int .u64 b4])).run Try.prog w = .ok ((decide (a0 = b0) && (decide (a1 = b1) && (decide (a2 = b2) && (decide (a3 = b3) && decide (a4 = b4)))))) w := by
  simp [go_sem, Try.underlying2, Try.underlying3, Try.underlying23, Try.underlying27, Try.underlying29]
  (repeat' split) <;> simp_all
def eqTab : TypeId → List Value → List Value → Option Bool
  | 27, [.int .i64 a0, .int .i64 a1, .int .i64 a2], [.int .i64 b0, .int .i64 b1, .int .i64 b2] => some ((decide (a0 = b0) && (decide (a1 = b1) && decide (a2 = b2))))
  | 29, [.int .i64 a0, .int .i64 a1, .int .i64 a2, .int .i64 a3, .int .u64 a4], [.int .i64 b0, .int .i64 b1, .int .i64 b2, .int .i64 b3, .int .u64 b4] => some ((decide (a0 = b0) && (decide (a1 = b1) && (decide (a2 = b2) && (decide (a3 = b3) && decide (a4 = b4))))))
  | _, _, _ => none
theorem eqTab_ok : ∀ t us vs b, eqTab t us vs = some b → Try.prog.eqGuardType Try.prog.depth t = false ∧ ∀ w : World, (Op.equalIn 10000 t (.agg us.toArray) (.agg vs.toArray)).run Try.prog w = .ok b w := by
  intro t us vs b h
  unfold eqTab at h
  split at h
  · cases h; exact ⟨by kernel_rfl, fun w => eqT27 _ _ _ _ _ _ w⟩
  · cases h; exact ⟨by kernel_rfl, fun w => eqT29 _ _ _ _ _ _ _ _ _ _ w⟩
  · cases h
theorem mixed : Try.prog.follows .mixedOrders = true := by kernel_rfl
/-- what is known of the program at the outset -/
def E0 : Env Try.prog := ⟨eqTab, eqTab_ok, fun _ _ => none, by simp⟩
def cl0 : FuncId → List AV → Option AV := fun _ _ => none
attribute [push_cast] tS1 tA1 tB1 tZ1 tS2 tA2 tB2 tZ2 tU2 tS3 tA3 tB3 tZ3 tU3 tS4 tA4 tB4 tZ4 tU4 tS5 tA5 tB5 tZ5 tU5 tS6 tA6 tB6 tZ6 tU6 tS7 tA7 tB7 tZ7 tF7_0 tF7_1 tF7_2 tF7_3 tP7 tS9 tA9 tB9 tZ9 tU9 tS12 tA12 tB12 tZ12 tU12 tS13 tA13 tB13 tZ13 tF13_0 tF13_1 tP13 tS15 tA15 tB15 tZ15 tS16 tA16 tB16 tZ16 tS17 tA17 tB17 tZ17 tS18 tA18 tB18 tZ18 tF18_0 tP18 tS19 tA19 tB19 tZ19 tF19_0 tP19 tS21 tA21 tB21 tZ21 tU21 tS22 tA22 tB22 tZ22 tE22 tR22 tU22 tS23 tA23 tB23 tZ23 tU23 tS24 tA24 tB24 tZ24 tF24_0 tF24_1 tF24_2 tP24 tS25 tA25 tB25 tZ25 tF25_0 tF25_1 tF25_2 tP25 tS26 tA26 tB26 tZ26 tF26_0 tF26_1 tF26_2 tP26 tS27 tA27 tB27 tZ27 tF27_0 tF27_1 tF27_2 tP27 tS28 tA28 tB28 tZ28 tF28_0 tF28_1 tF28_2 tP28 tS29 tA29 tB29 tZ29 tF29_0 tF29_1 tF29_2 tP29 tS30 tA30 tB30 tZ30 tS31 tA31 tB31 tZ31 tS32 tA32 tB32 tZ32 tS33 tA33 tB33 tZ33 tU33 tS35 tA35 tB35 tZ35 tS36 tA36 tB36 tZ36 tS37 tA37 tB37 tZ37 tE37 tR37 tU37 tS38 tA38 tB38 tZ38 tF38_0 tF38_1 tF38_2 tF38_3 tP38 tS39 tA39 tB39 tZ39 tF39_0 tF39_1 tF39_2 tF39_3 tP39 tS40 tA40 tB40 tZ40 tS41 tA41 tB41 tZ41 tS42 tA42 tB42 tZ42 tS44 tA44 tB44 tZ44 tS45 tA45 tB45 tZ45 tE45 tR45 tU45 tS46 tA46 tB46 tZ46 tS47 tA47 tB47 tZ47 tS48 tA48 tB48 tZ48 tS49 tA49 tB49 tZ49 tS50 tA50 tB50 tZ50 tS51 tA51 tB51 tZ51 tE51 tR51 tU51 tS52 tA52 tB52 tZ52 tE52 tR52 tU52 tS53 tA53 tB53 tZ53 tF53_0 tF53_1 tF53_2 tP53 tS54 tA54 tB54 tZ54 tF54_0 tF54_1 tF54_2 tP54 tS55 tA55 tB55 tZ55 tS56 tA56 tB56 tZ56 tS57 tA57 tB57 tZ57 tS58 tA58 tB58 tZ58 tS59 tA59 tB59 tZ59 tS60 tA60 tB60 tZ60 tS61 tA61 tB61 tZ61 tS62 tA62 tB62 tZ62 tS63 tA63 tB63 tZ63 tS64 tA64 tB64 tZ64 tS65 tA65 tB65 tZ65 tS66 tA66 tB66 tZ66 tS68 tA68 tB68 tZ68 tS69 tA69 tB69 tZ69 tS70 tA70 tB70 tZ70 tS71 tA71 tB71 tZ71 tS72 tA72 tB72 tZ72 tS73 tA73 tB73 tZ73 tS74 tA74 tB74 tZ74 tS75 tA75 tB75 tZ75 tS76 tA76 tB76 tZ76 tS77 tA77 tB77 tZ77 tE77 tR77 tU77 tS78 tA78 tB78 tZ78 tS79 tA79 tB79 tZ79 tS80 tA80 tB80 tZ80 tS81 tA81 tB81 tZ81 tS82 tA82 tB82 tZ82 tS83 tA83 tB83 tZ83 tS84 tA84 tB84 tZ84 tS85 tA85 tB85 tZ85 tS86 tA86 tB86 tZ86 tF86_0 tF86_1 tF86_2 tF86_3 tP86 tS88 tA88 tB88 tZ88 tR88 tE88 tP88 tS89 tA89 tB89 tZ89 tF89_0 tP89 tS91 tA91 tB91 tZ91 tS92 tA92 tB92 tZ92 tU92 tS93 tA93 tB93 tZ93 tU93 tS94 tA94 tB94 tZ94 tU94 tS95 tA95 tB95 tZ95 tS96 tA96 tB96 tZ96 tS97 tA97 tB97 tZ97 tU97 tS98 tA98 tB98 tZ98 tU98 tS99 tA99 tB99 tZ99 tF99_0 tF99_1 tF99_2 tF99_3 tF99_4 tF99_5 tF99_6 tF99_7 tF99_8 tF99_9 tF99_10 tP99 tS100 tA100 tB100 tZ100 tF100_0 tF100_1 tF100_2 tF100_3 tF100_4 tF100_5 tF100_6 tF100_7 tF100_8 tF100_9 tF100_10 tP100 tS101 tA101 tB101 tZ101 eqTab
theorem E0_cl : E0.cl = cl0 := rfl
theorem E0_eq : E0.eq = eqTab := rfl
attribute [push_cast] E0_cl E0_eq cl0
end Go.Proofs.Ytcmpciciodcddaa
