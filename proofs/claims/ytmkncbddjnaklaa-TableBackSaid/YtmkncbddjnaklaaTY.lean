/- Facts on the types of the program. -/
import Derived.Test.YtmkncbddjnaklaaProg
import Derived.Test.YtmkncbddjnaklaaMC
namespace Go.Proofs.Ytmkncbddjnaklaa
set_option linter.unusedVariables false

theorem tS1 : tS Try.prog 1 = some 1 := by kernel_rfl
theorem tA1 : tA Try.prog 1 = some false := by kernel_rfl
theorem tB1 : tB Try.prog 1 = some 8 := by kernel_rfl
theorem tZ1 : tZ Try.prog 1 = some [.nilFunc] := by kernel_rfl
theorem tS2 : tS Try.prog 2 = some 1 := by kernel_rfl
theorem tA2 : tA Try.prog 2 = some false := by kernel_rfl
theorem tB2 : tB Try.prog 2 = some 8 := by kernel_rfl
theorem tZ2 : tZ Try.prog 2 = some [.int .i64 0] := by kernel_rfl
theorem tU2 : Try.prog.underlying 2 = some (.int .i64) := by kernel_rfl
theorem tS3 : tS Try.prog 3 = some 1 := by kernel_rfl
theorem tA3 : tA Try.prog 3 = some false := by kernel_rfl
theorem tB3 : tB Try.prog 3 = some 8 := by kernel_rfl
theorem tZ3 : tZ Try.prog 3 = some [.int .i64 0] := by kernel_rfl
theorem tU3 : Try.prog.underlying 3 = some (.int .i64) := by kernel_rfl
theorem tS4 : tS Try.prog 4 = some 1 := by kernel_rfl
theorem tA4 : tA Try.prog 4 = some false := by kernel_rfl
theorem tB4 : tB Try.prog 4 = some 1 := by kernel_rfl
theorem tZ4 : tZ Try.prog 4 = some [.bool false] := by kernel_rfl
theorem tU4 : Try.prog.underlying 4 = some .bool := by kernel_rfl
theorem tS5 : tS Try.prog 5 = some 1 := by kernel_rfl
theorem tA5 : tA Try.prog 5 = some false := by kernel_rfl
theorem tB5 : tB Try.prog 5 = some 1 := by kernel_rfl
theorem tZ5 : tZ Try.prog 5 = some [.int .u8 0] := by kernel_rfl
theorem tU5 : Try.prog.underlying 5 = some (.int .u8) := by kernel_rfl
theorem tS6 : tS Try.prog 6 = some 1 := by kernel_rfl
theorem tA6 : tA Try.prog 6 = some false := by kernel_rfl
theorem tB6 : tB Try.prog 6 = some 1 := by kernel_rfl
theorem tZ6 : tZ Try.prog 6 = some [.int .u8 0] := by kernel_rfl
theorem tU6 : Try.prog.underlying 6 = some (.int .u8) := by kernel_rfl
theorem tS7 : tS Try.prog 7 = some 4 := by kernel_rfl
theorem tA7 : tA Try.prog 7 = some true := by kernel_rfl
theorem tB7 : tB Try.prog 7 = some 24 := by kernel_rfl
theorem tZ7 : tZ Try.prog 7 = some [.int .i64 0, .int .i64 0, .bool false, .int .u8 0] := by kernel_rfl
theorem tF7_0 : tF Try.prog 7 0 = some (0, 2) := by kernel_rfl
theorem tF7_1 : tF Try.prog 7 1 = some (1, 3) := by kernel_rfl
theorem tF7_2 : tF Try.prog 7 2 = some (2, 4) := by kernel_rfl
theorem tF7_3 : tF Try.prog 7 3 = some (3, 6) := by kernel_rfl
theorem tP7 : tP Try.prog 7 = some [(0, 1), (1, 1), (2, 1), (3, 1)] := by kernel_rfl
theorem tS9 : tS Try.prog 9 = some 1 := by kernel_rfl
theorem tA9 : tA Try.prog 9 = some false := by kernel_rfl
theorem tB9 : tB Try.prog 9 = some 16 := by kernel_rfl
theorem tZ9 : tZ Try.prog 9 = some [.string ⟨#[]⟩] := by kernel_rfl
theorem tU9 : Try.prog.underlying 9 = some .string := by kernel_rfl
theorem tS12 : tS Try.prog 12 = some 1 := by kernel_rfl
theorem tA12 : tA Try.prog 12 = some false := by kernel_rfl
theorem tB12 : tB Try.prog 12 = some 8 := by kernel_rfl
theorem tZ12 : tZ Try.prog 12 = some [.int .u64 0] := by kernel_rfl
theorem tU12 : Try.prog.underlying 12 = some (.int .u64) := by kernel_rfl
theorem tS13 : tS Try.prog 13 = some 2 := by kernel_rfl
theorem tA13 : tA Try.prog 13 = some true := by kernel_rfl
theorem tB13 : tB Try.prog 13 = some 24 := by kernel_rfl
theorem tZ13 : tZ Try.prog 13 = some [.string ⟨#[]⟩, .int .u64 0] := by kernel_rfl
theorem tF13_0 : tF Try.prog 13 0 = some (0, 9) := by kernel_rfl
theorem tF13_1 : tF Try.prog 13 1 = some (1, 12) := by kernel_rfl
theorem tP13 : tP Try.prog 13 = some [(0, 1), (1, 1)] := by kernel_rfl
theorem tS15 : tS Try.prog 15 = some 1 := by kernel_rfl
theorem tA15 : tA Try.prog 15 = some false := by kernel_rfl
theorem tB15 : tB Try.prog 15 = some 8 := by kernel_rfl
theorem tZ15 : tZ Try.prog 15 = some [.pointer none] := by kernel_rfl
theorem tS16 : tS Try.prog 16 = some 1 := by kernel_rfl
theorem tA16 : tA Try.prog 16 = some false := by kernel_rfl
theorem tB16 : tB Try.prog 16 = some 8 := by kernel_rfl
theorem tZ16 : tZ Try.prog 16 = some [.pointer none] := by kernel_rfl
theorem tS17 : tS Try.prog 17 = some 1 := by kernel_rfl
theorem tA17 : tA Try.prog 17 = some false := by kernel_rfl
theorem tB17 : tB Try.prog 17 = some 8 := by kernel_rfl
theorem tZ17 : tZ Try.prog 17 = some [.pointer none] := by kernel_rfl
theorem tS18 : tS Try.prog 18 = some 1 := by kernel_rfl
theorem tA18 : tA Try.prog 18 = some true := by kernel_rfl
theorem tB18 : tB Try.prog 18 = some 8 := by kernel_rfl
theorem tZ18 : tZ Try.prog 18 = some [.pointer none] := by kernel_rfl
theorem tF18_0 : tF Try.prog 18 0 = some (0, 17) := by kernel_rfl
theorem tP18 : tP Try.prog 18 = some [(0, 1)] := by kernel_rfl
theorem tS19 : tS Try.prog 19 = some 1 := by kernel_rfl
theorem tA19 : tA Try.prog 19 = some true := by kernel_rfl
theorem tB19 : tB Try.prog 19 = some 8 := by kernel_rfl
theorem tZ19 : tZ Try.prog 19 = some [.pointer none] := by kernel_rfl
theorem tF19_0 : tF Try.prog 19 0 = some (0, 17) := by kernel_rfl
theorem tP19 : tP Try.prog 19 = some [(0, 1)] := by kernel_rfl
theorem tS21 : tS Try.prog 21 = some 1 := by kernel_rfl
theorem tA21 : tA Try.prog 21 = some false := by kernel_rfl
theorem tB21 : tB Try.prog 21 = some 4 := by kernel_rfl
theorem tZ21 : tZ Try.prog 21 = some [.int .i32 0] := by kernel_rfl
theorem tU21 : Try.prog.underlying 21 = some (.int .i32) := by kernel_rfl
theorem tS22 : tS Try.prog 22 = some 1 := by kernel_rfl
theorem tA22 : tA Try.prog 22 = some false := by kernel_rfl
theorem tB22 : tB Try.prog 22 = some 24 := by kernel_rfl
theorem tZ22 : tZ Try.prog 22 = some [.slice none 0 0] := by kernel_rfl
theorem tE22 : tE Try.prog 22 = some 3 := by kernel_rfl
theorem tR22 : tR Try.prog 22 = none := by kernel_rfl
theorem tU22 : Try.prog.underlying 22 = some (.slice 3) := by kernel_rfl
theorem tS23 : tS Try.prog 23 = some 5 := by kernel_rfl
theorem tA23 : tA Try.prog 23 = some true := by kernel_rfl
theorem tB23 : tB Try.prog 23 = some 56 := by kernel_rfl
theorem tZ23 : tZ Try.prog 23 = some [.int .i64 0, .int .i64 0, .slice none 0 0, .int .i64 0, .int .i64 0] := by kernel_rfl
theorem tF23_0 : tF Try.prog 23 0 = some (0, 3) := by kernel_rfl
theorem tF23_1 : tF Try.prog 23 1 = some (1, 3) := by kernel_rfl
theorem tF23_2 : tF Try.prog 23 2 = some (2, 22) := by kernel_rfl
theorem tF23_3 : tF Try.prog 23 3 = some (3, 2) := by kernel_rfl
theorem tF23_4 : tF Try.prog 23 4 = some (4, 2) := by kernel_rfl
theorem tP23 : tP Try.prog 23 = some [(0, 1), (1, 1), (2, 1), (3, 1), (4, 1)] := by kernel_rfl
theorem tS24 : tS Try.prog 24 = some 5 := by kernel_rfl
theorem tA24 : tA Try.prog 24 = some true := by kernel_rfl
theorem tB24 : tB Try.prog 24 = some 56 := by kernel_rfl
theorem tZ24 : tZ Try.prog 24 = some [.int .i64 0, .int .i64 0, .slice none 0 0, .int .i64 0, .int .i64 0] := by kernel_rfl
theorem tF24_0 : tF Try.prog 24 0 = some (0, 3) := by kernel_rfl
theorem tF24_1 : tF Try.prog 24 1 = some (1, 3) := by kernel_rfl
theorem tF24_2 : tF Try.prog 24 2 = some (2, 22) := by kernel_rfl
theorem tF24_3 : tF Try.prog 24 3 = some (3, 2) := by kernel_rfl
theorem tF24_4 : tF Try.prog 24 4 = some (4, 2) := by kernel_rfl
theorem tP24 : tP Try.prog 24 = some [(0, 1), (1, 1), (2, 1), (3, 1), (4, 1)] := by kernel_rfl
theorem tS25 : tS Try.prog 25 = some 2 := by kernel_rfl
theorem tA25 : tA Try.prog 25 = some true := by kernel_rfl
theorem tB25 : tB Try.prog 25 = some 16 := by kernel_rfl
theorem tZ25 : tZ Try.prog 25 = some [.int .i64 0, .int .i64 0] := by kernel_rfl
theorem tF25_0 : tF Try.prog 25 0 = some (0, 2) := by kernel_rfl
theorem tF25_1 : tF Try.prog 25 1 = some (1, 2) := by kernel_rfl
theorem tP25 : tP Try.prog 25 = some [(0, 1), (1, 1)] := by kernel_rfl
theorem tS26 : tS Try.prog 26 = some 2 := by kernel_rfl
theorem tA26 : tA Try.prog 26 = some true := by kernel_rfl
theorem tB26 : tB Try.prog 26 = some 16 := by kernel_rfl
theorem tZ26 : tZ Try.prog 26 = some [.int .i64 0, .int .i64 0] := by kernel_rfl
theorem tF26_0 : tF Try.prog 26 0 = some (0, 2) := by kernel_rfl
theorem tF26_1 : tF Try.prog 26 1 = some (1, 2) := by kernel_rfl
theorem tP26 : tP Try.prog 26 = some [(0, 1), (1, 1)] := by kernel_rfl
theorem tS27 : tS Try.prog 27 = some 7 := by kernel_rfl
theorem tA27 : tA Try.prog 27 = some true := by kernel_rfl
theorem tB27 : tB Try.prog 27 = some 72 := by kernel_rfl
theorem tZ27 : tZ Try.prog 27 = some [.int .i64 0, .int .i64 0, .slice none 0 0, .int .i64 0, .int .i64 0, .int .i64 0, .int .i64 0] := by kernel_rfl
theorem tF27_0 : tF Try.prog 27 0 = some (0, 24) := by kernel_rfl
theorem tF27_1 : tF Try.prog 27 1 = some (5, 26) := by kernel_rfl
theorem tP27 : tP Try.prog 27 = some [(0, 5), (5, 2)] := by kernel_rfl
theorem tS28 : tS Try.prog 28 = some 7 := by kernel_rfl
theorem tA28 : tA Try.prog 28 = some true := by kernel_rfl
theorem tB28 : tB Try.prog 28 = some 72 := by kernel_rfl
theorem tZ28 : tZ Try.prog 28 = some [.int .i64 0, .int .i64 0, .slice none 0 0, .int .i64 0, .int .i64 0, .int .i64 0, .int .i64 0] := by kernel_rfl
theorem tF28_0 : tF Try.prog 28 0 = some (0, 24) := by kernel_rfl
theorem tF28_1 : tF Try.prog 28 1 = some (5, 26) := by kernel_rfl
theorem tP28 : tP Try.prog 28 = some [(0, 5), (5, 2)] := by kernel_rfl
theorem tS29 : tS Try.prog 29 = some 1 := by kernel_rfl
theorem tA29 : tA Try.prog 29 = some false := by kernel_rfl
theorem tB29 : tB Try.prog 29 = some 24 := by kernel_rfl
theorem tZ29 : tZ Try.prog 29 = some [.slice none 0 0] := by kernel_rfl
theorem tE29 : tE Try.prog 29 = some 2 := by kernel_rfl
theorem tR29 : tR Try.prog 29 = none := by kernel_rfl
theorem tU29 : Try.prog.underlying 29 = some (.slice 2) := by kernel_rfl
theorem tS30 : tS Try.prog 30 = some 1 := by kernel_rfl
theorem tA30 : tA Try.prog 30 = some false := by kernel_rfl
theorem tB30 : tB Try.prog 30 = some 8 := by kernel_rfl
theorem tZ30 : tZ Try.prog 30 = some [.nilFunc] := by kernel_rfl
theorem tS31 : tS Try.prog 31 = some 1 := by kernel_rfl
theorem tA31 : tA Try.prog 31 = some false := by kernel_rfl
theorem tB31 : tB Try.prog 31 = some 8 := by kernel_rfl
theorem tZ31 : tZ Try.prog 31 = some [.nilFunc] := by kernel_rfl
theorem tS32 : tS Try.prog 32 = some 1 := by kernel_rfl
theorem tA32 : tA Try.prog 32 = some false := by kernel_rfl
theorem tB32 : tB Try.prog 32 = some 8 := by kernel_rfl
theorem tZ32 : tZ Try.prog 32 = some [.nilFunc] := by kernel_rfl
theorem tS33 : tS Try.prog 33 = some 1 := by kernel_rfl
theorem tA33 : tA Try.prog 33 = some false := by kernel_rfl
theorem tB33 : tB Try.prog 33 = some 8 := by kernel_rfl
theorem tZ33 : tZ Try.prog 33 = some [.int .i64 0] := by kernel_rfl
theorem tU33 : Try.prog.underlying 33 = some (.int .i64) := by kernel_rfl
theorem tS35 : tS Try.prog 35 = some 1 := by kernel_rfl
theorem tA35 : tA Try.prog 35 = some false := by kernel_rfl
theorem tB35 : tB Try.prog 35 = some 8 := by kernel_rfl
theorem tZ35 : tZ Try.prog 35 = some [.nilFunc] := by kernel_rfl
theorem tS36 : tS Try.prog 36 = some 1 := by kernel_rfl
theorem tA36 : tA Try.prog 36 = some false := by kernel_rfl
theorem tB36 : tB Try.prog 36 = some 8 := by kernel_rfl
theorem tZ36 : tZ Try.prog 36 = some [.nilFunc] := by kernel_rfl
theorem tS37 : tS Try.prog 37 = some 1 := by kernel_rfl
theorem tA37 : tA Try.prog 37 = some false := by kernel_rfl
theorem tB37 : tB Try.prog 37 = some 8 := by kernel_rfl
theorem tZ37 : tZ Try.prog 37 = some [.nilFunc] := by kernel_rfl
theorem tS38 : tS Try.prog 38 = some 1 := by kernel_rfl
theorem tA38 : tA Try.prog 38 = some false := by kernel_rfl
theorem tB38 : tB Try.prog 38 = some 24 := by kernel_rfl
theorem tZ38 : tZ Try.prog 38 = some [.slice none 0 0] := by kernel_rfl
theorem tE38 : tE Try.prog 38 = some 28 := by kernel_rfl
theorem tR38 : tR Try.prog 38 = none := by kernel_rfl
theorem tU38 : Try.prog.underlying 38 = some (.slice 28) := by kernel_rfl
theorem tS39 : tS Try.prog 39 = some 1 := by kernel_rfl
theorem tA39 : tA Try.prog 39 = some false := by kernel_rfl
theorem tB39 : tB Try.prog 39 = some 8 := by kernel_rfl
theorem tZ39 : tZ Try.prog 39 = some [.nilFunc] := by kernel_rfl
theorem tS40 : tS Try.prog 40 = some 1 := by kernel_rfl
theorem tA40 : tA Try.prog 40 = some false := by kernel_rfl
theorem tB40 : tB Try.prog 40 = some 8 := by kernel_rfl
theorem tZ40 : tZ Try.prog 40 = some [.nilFunc] := by kernel_rfl
theorem tS41 : tS Try.prog 41 = some 1 := by kernel_rfl
theorem tA41 : tA Try.prog 41 = some false := by kernel_rfl
theorem tB41 : tB Try.prog 41 = some 8 := by kernel_rfl
theorem tZ41 : tZ Try.prog 41 = some [.nilFunc] := by kernel_rfl
theorem tS42 : tS Try.prog 42 = some 1 := by kernel_rfl
theorem tA42 : tA Try.prog 42 = some false := by kernel_rfl
theorem tB42 : tB Try.prog 42 = some 8 := by kernel_rfl
theorem tZ42 : tZ Try.prog 42 = some [.nilFunc] := by kernel_rfl
theorem tS43 : tS Try.prog 43 = some 1 := by kernel_rfl
theorem tA43 : tA Try.prog 43 = some false := by kernel_rfl
theorem tB43 : tB Try.prog 43 = some 24 := by kernel_rfl
theorem tZ43 : tZ Try.prog 43 = some [.slice none 0 0] := by kernel_rfl
theorem tE43 : tE Try.prog 43 = some 24 := by kernel_rfl
theorem tR43 : tR Try.prog 43 = none := by kernel_rfl
theorem tU43 : Try.prog.underlying 43 = some (.slice 24) := by kernel_rfl
theorem tS45 : tS Try.prog 45 = some 1 := by kernel_rfl
theorem tA45 : tA Try.prog 45 = some false := by kernel_rfl
theorem tB45 : tB Try.prog 45 = some 8 := by kernel_rfl
theorem tZ45 : tZ Try.prog 45 = some [.nilFunc] := by kernel_rfl
theorem tS46 : tS Try.prog 46 = some 1 := by kernel_rfl
theorem tA46 : tA Try.prog 46 = some false := by kernel_rfl
theorem tB46 : tB Try.prog 46 = some 8 := by kernel_rfl
theorem tZ46 : tZ Try.prog 46 = some [.nilFunc] := by kernel_rfl
theorem tS47 : tS Try.prog 47 = some 1 := by kernel_rfl
theorem tA47 : tA Try.prog 47 = some false := by kernel_rfl
theorem tB47 : tB Try.prog 47 = some 24 := by kernel_rfl
theorem tZ47 : tZ Try.prog 47 = some [.slice none 0 0] := by kernel_rfl
theorem tE47 : tE Try.prog 47 = some 80 := by kernel_rfl
theorem tR47 : tR Try.prog 47 = none := by kernel_rfl
theorem tU47 : Try.prog.underlying 47 = some (.slice 80) := by kernel_rfl
theorem tS48 : tS Try.prog 48 = some 1 := by kernel_rfl
theorem tA48 : tA Try.prog 48 = some true := by kernel_rfl
theorem tB48 : tB Try.prog 48 = some 24 := by kernel_rfl
theorem tZ48 : tZ Try.prog 48 = some [.slice none 0 0] := by kernel_rfl
theorem tF48_0 : tF Try.prog 48 0 = some (0, 47) := by kernel_rfl
theorem tP48 : tP Try.prog 48 = some [(0, 1)] := by kernel_rfl
theorem tS49 : tS Try.prog 49 = some 1 := by kernel_rfl
theorem tA49 : tA Try.prog 49 = some true := by kernel_rfl
theorem tB49 : tB Try.prog 49 = some 24 := by kernel_rfl
theorem tZ49 : tZ Try.prog 49 = some [.slice none 0 0] := by kernel_rfl
theorem tF49_0 : tF Try.prog 49 0 = some (0, 47) := by kernel_rfl
theorem tP49 : tP Try.prog 49 = some [(0, 1)] := by kernel_rfl
theorem tS50 : tS Try.prog 50 = some 1 := by kernel_rfl
theorem tA50 : tA Try.prog 50 = some false := by kernel_rfl
theorem tB50 : tB Try.prog 50 = some 24 := by kernel_rfl
theorem tZ50 : tZ Try.prog 50 = some [.slice none 0 0] := by kernel_rfl
theorem tE50 : tE Try.prog 50 = some 54 := by kernel_rfl
theorem tR50 : tR Try.prog 50 = none := by kernel_rfl
theorem tU50 : Try.prog.underlying 50 = some (.slice 54) := by kernel_rfl
theorem tS51 : tS Try.prog 51 = some 1 := by kernel_rfl
theorem tA51 : tA Try.prog 51 = some false := by kernel_rfl
theorem tB51 : tB Try.prog 51 = some 8 := by kernel_rfl
theorem tZ51 : tZ Try.prog 51 = some [.nilFunc] := by kernel_rfl
theorem tS52 : tS Try.prog 52 = some 1 := by kernel_rfl
theorem tA52 : tA Try.prog 52 = some false := by kernel_rfl
theorem tB52 : tB Try.prog 52 = some 8 := by kernel_rfl
theorem tZ52 : tZ Try.prog 52 = some [.nilFunc] := by kernel_rfl
theorem tS53 : tS Try.prog 53 = some 3 := by kernel_rfl
theorem tA53 : tA Try.prog 53 = some true := by kernel_rfl
theorem tB53 : tB Try.prog 53 = some 24 := by kernel_rfl
theorem tZ53 : tZ Try.prog 53 = some [.int .i64 0, .int .i64 0, .int .i64 0] := by kernel_rfl
theorem tF53_0 : tF Try.prog 53 0 = some (0, 3) := by kernel_rfl
theorem tF53_1 : tF Try.prog 53 1 = some (1, 3) := by kernel_rfl
theorem tF53_2 : tF Try.prog 53 2 = some (2, 2) := by kernel_rfl
theorem tP53 : tP Try.prog 53 = some [(0, 1), (1, 1), (2, 1)] := by kernel_rfl
theorem tS54 : tS Try.prog 54 = some 3 := by kernel_rfl
theorem tA54 : tA Try.prog 54 = some true := by kernel_rfl
theorem tB54 : tB Try.prog 54 = some 24 := by kernel_rfl
theorem tZ54 : tZ Try.prog 54 = some [.int .i64 0, .int .i64 0, .int .i64 0] := by kernel_rfl
theorem tF54_0 : tF Try.prog 54 0 = some (0, 3) := by kernel_rfl
theorem tF54_1 : tF Try.prog 54 1 = some (1, 3) := by kernel_rfl
theorem tF54_2 : tF Try.prog 54 2 = some (2, 2) := by kernel_rfl
theorem tP54 : tP Try.prog 54 = some [(0, 1), (1, 1), (2, 1)] := by kernel_rfl
theorem tS56 : tS Try.prog 56 = some 1 := by kernel_rfl
theorem tA56 : tA Try.prog 56 = some false := by kernel_rfl
theorem tB56 : tB Try.prog 56 = some 8 := by kernel_rfl
theorem tZ56 : tZ Try.prog 56 = some [.nilFunc] := by kernel_rfl
theorem tS57 : tS Try.prog 57 = some 1 := by kernel_rfl
theorem tA57 : tA Try.prog 57 = some false := by kernel_rfl
theorem tB57 : tB Try.prog 57 = some 8 := by kernel_rfl
theorem tZ57 : tZ Try.prog 57 = some [.nilFunc] := by kernel_rfl
theorem tS58 : tS Try.prog 58 = some 1 := by kernel_rfl
theorem tA58 : tA Try.prog 58 = some false := by kernel_rfl
theorem tB58 : tB Try.prog 58 = some 8 := by kernel_rfl
theorem tZ58 : tZ Try.prog 58 = some [.nilFunc] := by kernel_rfl
theorem tS59 : tS Try.prog 59 = some 1 := by kernel_rfl
theorem tA59 : tA Try.prog 59 = some false := by kernel_rfl
theorem tB59 : tB Try.prog 59 = some 8 := by kernel_rfl
theorem tZ59 : tZ Try.prog 59 = some [.nilFunc] := by kernel_rfl
theorem tS60 : tS Try.prog 60 = some 1 := by kernel_rfl
theorem tA60 : tA Try.prog 60 = some false := by kernel_rfl
theorem tB60 : tB Try.prog 60 = some 8 := by kernel_rfl
theorem tZ60 : tZ Try.prog 60 = some [.nilFunc] := by kernel_rfl
theorem tS61 : tS Try.prog 61 = some 1 := by kernel_rfl
theorem tA61 : tA Try.prog 61 = some false := by kernel_rfl
theorem tB61 : tB Try.prog 61 = some 8 := by kernel_rfl
theorem tZ61 : tZ Try.prog 61 = some [.nilFunc] := by kernel_rfl
theorem tS62 : tS Try.prog 62 = some 1 := by kernel_rfl
theorem tA62 : tA Try.prog 62 = some false := by kernel_rfl
theorem tB62 : tB Try.prog 62 = some 24 := by kernel_rfl
theorem tZ62 : tZ Try.prog 62 = some [.slice none 0 0] := by kernel_rfl
theorem tE62 : tE Try.prog 62 = some 64 := by kernel_rfl
theorem tR62 : tR Try.prog 62 = none := by kernel_rfl
theorem tU62 : Try.prog.underlying 62 = some (.slice 64) := by kernel_rfl
theorem tS63 : tS Try.prog 63 = some 5 := by kernel_rfl
theorem tA63 : tA Try.prog 63 = some true := by kernel_rfl
theorem tB63 : tB Try.prog 63 = some 40 := by kernel_rfl
theorem tZ63 : tZ Try.prog 63 = some [.int .i64 0, .int .i64 0, .int .i64 0, .int .i64 0, .int .i64 0] := by kernel_rfl
theorem tF63_0 : tF Try.prog 63 0 = some (0, 54) := by kernel_rfl
theorem tF63_1 : tF Try.prog 63 1 = some (3, 26) := by kernel_rfl
theorem tP63 : tP Try.prog 63 = some [(0, 3), (3, 2)] := by kernel_rfl
theorem tS64 : tS Try.prog 64 = some 5 := by kernel_rfl
theorem tA64 : tA Try.prog 64 = some true := by kernel_rfl
theorem tB64 : tB Try.prog 64 = some 40 := by kernel_rfl
theorem tZ64 : tZ Try.prog 64 = some [.int .i64 0, .int .i64 0, .int .i64 0, .int .i64 0, .int .i64 0] := by kernel_rfl
theorem tF64_0 : tF Try.prog 64 0 = some (0, 54) := by kernel_rfl
theorem tF64_1 : tF Try.prog 64 1 = some (3, 26) := by kernel_rfl
theorem tP64 : tP Try.prog 64 = some [(0, 3), (3, 2)] := by kernel_rfl
theorem tS66 : tS Try.prog 66 = some 1 := by kernel_rfl
theorem tA66 : tA Try.prog 66 = some false := by kernel_rfl
theorem tB66 : tB Try.prog 66 = some 8 := by kernel_rfl
theorem tZ66 : tZ Try.prog 66 = some [.nilFunc] := by kernel_rfl
theorem tS67 : tS Try.prog 67 = some 1 := by kernel_rfl
theorem tA67 : tA Try.prog 67 = some false := by kernel_rfl
theorem tB67 : tB Try.prog 67 = some 8 := by kernel_rfl
theorem tZ67 : tZ Try.prog 67 = some [.nilFunc] := by kernel_rfl
theorem tS68 : tS Try.prog 68 = some 1 := by kernel_rfl
theorem tA68 : tA Try.prog 68 = some false := by kernel_rfl
theorem tB68 : tB Try.prog 68 = some 24 := by kernel_rfl
theorem tZ68 : tZ Try.prog 68 = some [.slice none 0 0] := by kernel_rfl
theorem tE68 : tE Try.prog 68 = some 70 := by kernel_rfl
theorem tR68 : tR Try.prog 68 = none := by kernel_rfl
theorem tU68 : Try.prog.underlying 68 = some (.slice 70) := by kernel_rfl
theorem tS69 : tS Try.prog 69 = some 2 := by kernel_rfl
theorem tA69 : tA Try.prog 69 = some true := by kernel_rfl
theorem tB69 : tB Try.prog 69 = some 16 := by kernel_rfl
theorem tZ69 : tZ Try.prog 69 = some [.int .i64 0, .int .i64 0] := by kernel_rfl
theorem tF69_0 : tF Try.prog 69 0 = some (0, 3) := by kernel_rfl
theorem tF69_1 : tF Try.prog 69 1 = some (1, 3) := by kernel_rfl
theorem tP69 : tP Try.prog 69 = some [(0, 1), (1, 1)] := by kernel_rfl
theorem tS70 : tS Try.prog 70 = some 2 := by kernel_rfl
theorem tA70 : tA Try.prog 70 = some true := by kernel_rfl
theorem tB70 : tB Try.prog 70 = some 16 := by kernel_rfl
theorem tZ70 : tZ Try.prog 70 = some [.int .i64 0, .int .i64 0] := by kernel_rfl
theorem tF70_0 : tF Try.prog 70 0 = some (0, 3) := by kernel_rfl
theorem tF70_1 : tF Try.prog 70 1 = some (1, 3) := by kernel_rfl
theorem tP70 : tP Try.prog 70 = some [(0, 1), (1, 1)] := by kernel_rfl
theorem tS71 : tS Try.prog 71 = some 1 := by kernel_rfl
theorem tA71 : tA Try.prog 71 = some false := by kernel_rfl
theorem tB71 : tB Try.prog 71 = some 8 := by kernel_rfl
theorem tZ71 : tZ Try.prog 71 = some [.nilFunc] := by kernel_rfl
theorem tS72 : tS Try.prog 72 = some 1 := by kernel_rfl
theorem tA72 : tA Try.prog 72 = some false := by kernel_rfl
theorem tB72 : tB Try.prog 72 = some 8 := by kernel_rfl
theorem tZ72 : tZ Try.prog 72 = some [.nilFunc] := by kernel_rfl
theorem tS73 : tS Try.prog 73 = some 1 := by kernel_rfl
theorem tA73 : tA Try.prog 73 = some false := by kernel_rfl
theorem tB73 : tB Try.prog 73 = some 8 := by kernel_rfl
theorem tZ73 : tZ Try.prog 73 = some [.nilFunc] := by kernel_rfl
theorem tS74 : tS Try.prog 74 = some 1 := by kernel_rfl
theorem tA74 : tA Try.prog 74 = some false := by kernel_rfl
theorem tB74 : tB Try.prog 74 = some 8 := by kernel_rfl
theorem tZ74 : tZ Try.prog 74 = some [.nilFunc] := by kernel_rfl
theorem tS75 : tS Try.prog 75 = some 1 := by kernel_rfl
theorem tA75 : tA Try.prog 75 = some false := by kernel_rfl
theorem tB75 : tB Try.prog 75 = some 8 := by kernel_rfl
theorem tZ75 : tZ Try.prog 75 = some [.nilFunc] := by kernel_rfl
theorem tS76 : tS Try.prog 76 = some 1 := by kernel_rfl
theorem tA76 : tA Try.prog 76 = some false := by kernel_rfl
theorem tB76 : tB Try.prog 76 = some 8 := by kernel_rfl
theorem tZ76 : tZ Try.prog 76 = some [.nilFunc] := by kernel_rfl
theorem tS77 : tS Try.prog 77 = some 1 := by kernel_rfl
theorem tA77 : tA Try.prog 77 = some false := by kernel_rfl
theorem tB77 : tB Try.prog 77 = some 8 := by kernel_rfl
theorem tZ77 : tZ Try.prog 77 = some [.nilFunc] := by kernel_rfl
theorem tS78 : tS Try.prog 78 = some 1 := by kernel_rfl
theorem tA78 : tA Try.prog 78 = some false := by kernel_rfl
theorem tB78 : tB Try.prog 78 = some 8 := by kernel_rfl
theorem tZ78 : tZ Try.prog 78 = some [.int .u64 0] := by kernel_rfl
theorem tU78 : Try.prog.underlying 78 = some (.int .u64) := by kernel_rfl
theorem tS79 : tS Try.prog 79 = some 4 := by kernel_rfl
theorem tA79 : tA Try.prog 79 = some true := by kernel_rfl
theorem tB79 : tB Try.prog 79 = some 32 := by kernel_rfl
theorem tZ79 : tZ Try.prog 79 = some [.int .i64 0, .int .i64 0, .int .i64 0, .int .i64 0] := by kernel_rfl
theorem tF79_0 : tF Try.prog 79 0 = some (0, 3) := by kernel_rfl
theorem tF79_1 : tF Try.prog 79 1 = some (1, 3) := by kernel_rfl
theorem tF79_2 : tF Try.prog 79 2 = some (2, 26) := by kernel_rfl
theorem tP79 : tP Try.prog 79 = some [(0, 1), (1, 1), (2, 2)] := by kernel_rfl
theorem tS80 : tS Try.prog 80 = some 4 := by kernel_rfl
theorem tA80 : tA Try.prog 80 = some true := by kernel_rfl
theorem tB80 : tB Try.prog 80 = some 32 := by kernel_rfl
theorem tZ80 : tZ Try.prog 80 = some [.int .i64 0, .int .i64 0, .int .i64 0, .int .i64 0] := by kernel_rfl
theorem tF80_0 : tF Try.prog 80 0 = some (0, 3) := by kernel_rfl
theorem tF80_1 : tF Try.prog 80 1 = some (1, 3) := by kernel_rfl
theorem tF80_2 : tF Try.prog 80 2 = some (2, 26) := by kernel_rfl
theorem tP80 : tP Try.prog 80 = some [(0, 1), (1, 1), (2, 2)] := by kernel_rfl
theorem tS81 : tS Try.prog 81 = some 1 := by kernel_rfl
theorem tA81 : tA Try.prog 81 = some false := by kernel_rfl
theorem tB81 : tB Try.prog 81 = some 8 := by kernel_rfl
theorem tZ81 : tZ Try.prog 81 = some [.nilFunc] := by kernel_rfl
theorem tS82 : tS Try.prog 82 = some 1 := by kernel_rfl
theorem tA82 : tA Try.prog 82 = some false := by kernel_rfl
theorem tB82 : tB Try.prog 82 = some 8 := by kernel_rfl
theorem tZ82 : tZ Try.prog 82 = some [.nilFunc] := by kernel_rfl
theorem tS83 : tS Try.prog 83 = some 1 := by kernel_rfl
theorem tA83 : tA Try.prog 83 = some false := by kernel_rfl
theorem tB83 : tB Try.prog 83 = some 24 := by kernel_rfl
theorem tZ83 : tZ Try.prog 83 = some [.slice none 0 0] := by kernel_rfl
theorem tE83 : tE Try.prog 83 = some 49 := by kernel_rfl
theorem tR83 : tR Try.prog 83 = none := by kernel_rfl
theorem tU83 : Try.prog.underlying 83 = some (.slice 49) := by kernel_rfl
theorem tS84 : tS Try.prog 84 = some 1 := by kernel_rfl
theorem tA84 : tA Try.prog 84 = some false := by kernel_rfl
theorem tB84 : tB Try.prog 84 = some 8 := by kernel_rfl
theorem tZ84 : tZ Try.prog 84 = some [.nilFunc] := by kernel_rfl
theorem tS85 : tS Try.prog 85 = some 1 := by kernel_rfl
theorem tA85 : tA Try.prog 85 = some false := by kernel_rfl
theorem tB85 : tB Try.prog 85 = some 8 := by kernel_rfl
theorem tZ85 : tZ Try.prog 85 = some [.nilFunc] := by kernel_rfl
theorem tS86 : tS Try.prog 86 = some 1 := by kernel_rfl
theorem tA86 : tA Try.prog 86 = some false := by kernel_rfl
theorem tB86 : tB Try.prog 86 = some 8 := by kernel_rfl
theorem tZ86 : tZ Try.prog 86 = some [.nilFunc] := by kernel_rfl
theorem tS87 : tS Try.prog 87 = some 1 := by kernel_rfl
theorem tA87 : tA Try.prog 87 = some false := by kernel_rfl
theorem tB87 : tB Try.prog 87 = some 24 := by kernel_rfl
theorem tZ87 : tZ Try.prog 87 = some [.slice none 0 0] := by kernel_rfl
theorem tE87 : tE Try.prog 87 = some 88 := by kernel_rfl
theorem tR87 : tR Try.prog 87 = none := by kernel_rfl
theorem tU87 : Try.prog.underlying 87 = some (.slice 88) := by kernel_rfl
theorem tS88 : tS Try.prog 88 = some 1 := by kernel_rfl
theorem tA88 : tA Try.prog 88 = some false := by kernel_rfl
theorem tB88 : tB Try.prog 88 = some 24 := by kernel_rfl
theorem tZ88 : tZ Try.prog 88 = some [.slice none 0 0] := by kernel_rfl
theorem tE88 : tE Try.prog 88 = some 5 := by kernel_rfl
theorem tR88 : tR Try.prog 88 = none := by kernel_rfl
theorem tU88 : Try.prog.underlying 88 = some (.slice 5) := by kernel_rfl
theorem tS90 : tS Try.prog 90 = some 1 := by kernel_rfl
theorem tA90 : tA Try.prog 90 = some false := by kernel_rfl
theorem tB90 : tB Try.prog 90 = some 8 := by kernel_rfl
theorem tZ90 : tZ Try.prog 90 = some [.nilFunc] := by kernel_rfl
theorem tS91 : tS Try.prog 91 = some 1 := by kernel_rfl
theorem tA91 : tA Try.prog 91 = some false := by kernel_rfl
theorem tB91 : tB Try.prog 91 = some 8 := by kernel_rfl
theorem tZ91 : tZ Try.prog 91 = some [.nilFunc] := by kernel_rfl
theorem tS92 : tS Try.prog 92 = some 1 := by kernel_rfl
theorem tA92 : tA Try.prog 92 = some false := by kernel_rfl
theorem tB92 : tB Try.prog 92 = some 8 := by kernel_rfl
theorem tZ92 : tZ Try.prog 92 = some [.nilFunc] := by kernel_rfl
theorem tS93 : tS Try.prog 93 = some 1 := by kernel_rfl
theorem tA93 : tA Try.prog 93 = some false := by kernel_rfl
theorem tB93 : tB Try.prog 93 = some 8 := by kernel_rfl
theorem tZ93 : tZ Try.prog 93 = some [.nilFunc] := by kernel_rfl
theorem tS94 : tS Try.prog 94 = some 1 := by kernel_rfl
theorem tA94 : tA Try.prog 94 = some false := by kernel_rfl
theorem tB94 : tB Try.prog 94 = some 8 := by kernel_rfl
theorem tZ94 : tZ Try.prog 94 = some [.nilFunc] := by kernel_rfl
theorem tS95 : tS Try.prog 95 = some 1 := by kernel_rfl
theorem tA95 : tA Try.prog 95 = some false := by kernel_rfl
theorem tB95 : tB Try.prog 95 = some 8 := by kernel_rfl
theorem tZ95 : tZ Try.prog 95 = some [.nilFunc] := by kernel_rfl
theorem tS96 : tS Try.prog 96 = some 1 := by kernel_rfl
theorem tA96 : tA Try.prog 96 = some false := by kernel_rfl
theorem tB96 : tB Try.prog 96 = some 8 := by kernel_rfl
theorem tZ96 : tZ Try.prog 96 = some [.nilFunc] := by kernel_rfl
theorem tS97 : tS Try.prog 97 = some 1 := by kernel_rfl
theorem tA97 : tA Try.prog 97 = some false := by kernel_rfl
theorem tB97 : tB Try.prog 97 = some 8 := by kernel_rfl
theorem tZ97 : tZ Try.prog 97 = some [.nilFunc] := by kernel_rfl
theorem tS98 : tS Try.prog 98 = some 1 := by kernel_rfl
theorem tA98 : tA Try.prog 98 = some false := by kernel_rfl
theorem tB98 : tB Try.prog 98 = some 8 := by kernel_rfl
theorem tZ98 : tZ Try.prog 98 = some [.nilFunc] := by kernel_rfl
theorem tS99 : tS Try.prog 99 = some 1 := by kernel_rfl
theorem tA99 : tA Try.prog 99 = some false := by kernel_rfl
theorem tB99 : tB Try.prog 99 = some 8 := by kernel_rfl
theorem tZ99 : tZ Try.prog 99 = some [.nilFunc] := by kernel_rfl
theorem tS100 : tS Try.prog 100 = some 1 := by kernel_rfl
theorem tA100 : tA Try.prog 100 = some false := by kernel_rfl
theorem tB100 : tB Try.prog 100 = some 8 := by kernel_rfl
theorem tZ100 : tZ Try.prog 100 = some [.nilFunc] := by kernel_rfl
theorem tS101 : tS Try.prog 101 = some 1 := by kernel_rfl
theorem tA101 : tA Try.prog 101 = some false := by kernel_rfl
theorem tB101 : tB Try.prog 101 = some 8 := by kernel_rfl
theorem tZ101 : tZ Try.prog 101 = some [.nilFunc] := by kernel_rfl
theorem tS102 : tS Try.prog 102 = some 1 := by kernel_rfl
theorem tA102 : tA Try.prog 102 = some false := by kernel_rfl
theorem tB102 : tB Try.prog 102 = some 8 := by kernel_rfl
theorem tZ102 : tZ Try.prog 102 = some [.pointer none] := by kernel_rfl
theorem tS103 : tS Try.prog 103 = some 1 := by kernel_rfl
theorem tA103 : tA Try.prog 103 = some false := by kernel_rfl
theorem tB103 : tB Try.prog 103 = some 8 := by kernel_rfl
theorem tZ103 : tZ Try.prog 103 = some [.nilFunc] := by kernel_rfl
theorem tS104 : tS Try.prog 104 = some 1 := by kernel_rfl
theorem tA104 : tA Try.prog 104 = some false := by kernel_rfl
theorem tB104 : tB Try.prog 104 = some 8 := by kernel_rfl
theorem tZ104 : tZ Try.prog 104 = some [.pointer none] := by kernel_rfl
theorem tS105 : tS Try.prog 105 = some 1 := by kernel_rfl
theorem tA105 : tA Try.prog 105 = some false := by kernel_rfl
theorem tB105 : tB Try.prog 105 = some 8 := by kernel_rfl
theorem tZ105 : tZ Try.prog 105 = some [.nilFunc] := by kernel_rfl
theorem tS106 : tS Try.prog 106 = some 1 := by kernel_rfl
theorem tA106 : tA Try.prog 106 = some false := by kernel_rfl
theorem tB106 : tB Try.prog 106 = some 8 := by kernel_rfl
theorem tZ106 : tZ Try.prog 106 = some [.nilFunc] := by kernel_rfl
theorem tS107 : tS Try.prog 107 = some 1 := by kernel_rfl
theorem tA107 : tA Try.prog 107 = some false := by kernel_rfl
theorem tB107 : tB Try.prog 107 = some 8 := by kernel_rfl
theorem tZ107 : tZ Try.prog 107 = some [.nilFunc] := by kernel_rfl
theorem tS108 : tS Try.prog 108 = some 1 := by kernel_rfl
theorem tA108 : tA Try.prog 108 = some false := by kernel_rfl
theorem tB108 : tB Try.prog 108 = some 8 := by kernel_rfl
theorem tZ108 : tZ Try.prog 108 = some [.nilFunc] := by kernel_rfl
theorem tS109 : tS Try.prog 109 = some 1 := by kernel_rfl
theorem tA109 : tA Try.prog 109 = some false := by kernel_rfl
theorem tB109 : tB Try.prog 109 = some 8 := by kernel_rfl
theorem tZ109 : tZ Try.prog 109 = some [.nilFunc] := by kernel_rfl
theorem tS111 : tS Try.prog 111 = some 1 := by kernel_rfl
theorem tA111 : tA Try.prog 111 = some false := by kernel_rfl
theorem tB111 : tB Try.prog 111 = some 8 := by kernel_rfl
theorem tZ111 : tZ Try.prog 111 = some [.nilFunc] := by kernel_rfl
theorem tS112 : tS Try.prog 112 = some 1 := by kernel_rfl
theorem tA112 : tA Try.prog 112 = some false := by kernel_rfl
theorem tB112 : tB Try.prog 112 = some 8 := by kernel_rfl
theorem tZ112 : tZ Try.prog 112 = some [.nilFunc] := by kernel_rfl
theorem tS113 : tS Try.prog 113 = some 1 := by kernel_rfl
theorem tA113 : tA Try.prog 113 = some false := by kernel_rfl
theorem tB113 : tB Try.prog 113 = some 8 := by kernel_rfl
theorem tZ113 : tZ Try.prog 113 = some [.nilFunc] := by kernel_rfl
theorem tS114 : tS Try.prog 114 = some 1 := by kernel_rfl
theorem tA114 : tA Try.prog 114 = some false := by kernel_rfl
theorem tB114 : tB Try.prog 114 = some 8 := by kernel_rfl
theorem tZ114 : tZ Try.prog 114 = some [.nilFunc] := by kernel_rfl
theorem tS115 : tS Try.prog 115 = some 1 := by kernel_rfl
theorem tA115 : tA Try.prog 115 = some false := by kernel_rfl
theorem tB115 : tB Try.prog 115 = some 8 := by kernel_rfl
theorem tZ115 : tZ Try.prog 115 = some [.nilFunc] := by kernel_rfl
theorem tS116 : tS Try.prog 116 = some 1 := by kernel_rfl
theorem tA116 : tA Try.prog 116 = some false := by kernel_rfl
theorem tB116 : tB Try.prog 116 = some 8 := by kernel_rfl
theorem tZ116 : tZ Try.prog 116 = some [.nilFunc] := by kernel_rfl
theorem tS117 : tS Try.prog 117 = some 1 := by kernel_rfl
theorem tA117 : tA Try.prog 117 = some false := by kernel_rfl
theorem tB117 : tB Try.prog 117 = some 8 := by kernel_rfl
theorem tZ117 : tZ Try.prog 117 = some [.nilFunc] := by kernel_rfl
theorem tS119 : tS Try.prog 119 = some 1 := by kernel_rfl
theorem tA119 : tA Try.prog 119 = some false := by kernel_rfl
theorem tB119 : tB Try.prog 119 = some 8 := by kernel_rfl
theorem tZ119 : tZ Try.prog 119 = some [.nilFunc] := by kernel_rfl
theorem tS120 : tS Try.prog 120 = some 1 := by kernel_rfl
theorem tA120 : tA Try.prog 120 = some false := by kernel_rfl
theorem tB120 : tB Try.prog 120 = some 8 := by kernel_rfl
theorem tZ120 : tZ Try.prog 120 = some [.nilFunc] := by kernel_rfl
theorem tS121 : tS Try.prog 121 = some 1 := by kernel_rfl
theorem tA121 : tA Try.prog 121 = some false := by kernel_rfl
theorem tB121 : tB Try.prog 121 = some 8 := by kernel_rfl
theorem tZ121 : tZ Try.prog 121 = some [.nilFunc] := by kernel_rfl
theorem tS122 : tS Try.prog 122 = some 1 := by kernel_rfl
theorem tA122 : tA Try.prog 122 = some false := by kernel_rfl
theorem tB122 : tB Try.prog 122 = some 8 := by kernel_rfl
theorem tZ122 : tZ Try.prog 122 = some [.nilFunc] := by kernel_rfl
theorem tS124 : tS Try.prog 124 = some 1 := by kernel_rfl
theorem tA124 : tA Try.prog 124 = some false := by kernel_rfl
theorem tB124 : tB Try.prog 124 = some 8 := by kernel_rfl
theorem tZ124 : tZ Try.prog 124 = some [.nilFunc] := by kernel_rfl
theorem tS125 : tS Try.prog 125 = some 1 := by kernel_rfl
theorem tA125 : tA Try.prog 125 = some false := by kernel_rfl
theorem tB125 : tB Try.prog 125 = some 8 := by kernel_rfl
theorem tZ125 : tZ Try.prog 125 = some [.nilFunc] := by kernel_rfl
theorem tS126 : tS Try.prog 126 = some 1 := by kernel_rfl
theorem tA126 : tA Try.prog 126 = some false := by kernel_rfl
theorem tB126 : tB Try.prog 126 = some 8 := by kernel_rfl
theorem tZ126 : tZ Try.prog 126 = some [.nilFunc] := by kernel_rfl
theorem tS127 : tS Try.prog 127 = some 1 := by kernel_rfl
theorem tA127 : tA Try.prog 127 = some false := by kernel_rfl
theorem tB127 : tB Try.prog 127 = some 8 := by kernel_rfl
theorem tZ127 : tZ Try.prog 127 = some [.nilFunc] := by kernel_rfl
theorem tS128 : tS Try.prog 128 = some 1 := by kernel_rfl
theorem tA128 : tA Try.prog 128 = some false := by kernel_rfl
theorem tB128 : tB Try.prog 128 = some 8 := by kernel_rfl
theorem tZ128 : tZ Try.prog 128 = some [.nilFunc] := by kernel_rfl
theorem tS129 : tS Try.prog 129 = some 1 := by kernel_rfl
theorem tA129 : tA Try.prog 129 = some false := by kernel_rfl
theorem tB129 : tB Try.prog 129 = some 2 := by kernel_rfl
theorem tZ129 : tZ Try.prog 129 = some [.int .u16 0] := by kernel_rfl
theorem tU129 : Try.prog.underlying 129 = some (.int .u16) := by kernel_rfl
theorem tS130 : tS Try.prog 130 = some 1 := by kernel_rfl
theorem tA130 : tA Try.prog 130 = some false := by kernel_rfl
theorem tB130 : tB Try.prog 130 = some 8 := by kernel_rfl
theorem tZ130 : tZ Try.prog 130 = some [.nilFunc] := by kernel_rfl
theorem tS131 : tS Try.prog 131 = some 1 := by kernel_rfl
theorem tA131 : tA Try.prog 131 = some false := by kernel_rfl
theorem tB131 : tB Try.prog 131 = some 8 := by kernel_rfl
theorem tZ131 : tZ Try.prog 131 = some [.int .u64 0] := by kernel_rfl
theorem tU131 : Try.prog.underlying 131 = some (.int .u64) := by kernel_rfl
theorem tS132 : tS Try.prog 132 = some 1 := by kernel_rfl
theorem tA132 : tA Try.prog 132 = some false := by kernel_rfl
theorem tB132 : tB Try.prog 132 = some 8 := by kernel_rfl
theorem tZ132 : tZ Try.prog 132 = some [.nilFunc] := by kernel_rfl
theorem tS133 : tS Try.prog 133 = some 1 := by kernel_rfl
theorem tA133 : tA Try.prog 133 = some false := by kernel_rfl
theorem tB133 : tB Try.prog 133 = some 8 := by kernel_rfl
theorem tZ133 : tZ Try.prog 133 = some [.pointer none] := by kernel_rfl
theorem tS134 : tS Try.prog 134 = some 1 := by kernel_rfl
theorem tA134 : tA Try.prog 134 = some false := by kernel_rfl
theorem tB134 : tB Try.prog 134 = some 8 := by kernel_rfl
theorem tZ134 : tZ Try.prog 134 = some [.nilFunc] := by kernel_rfl
theorem tS135 : tS Try.prog 135 = some 1 := by kernel_rfl
theorem tA135 : tA Try.prog 135 = some false := by kernel_rfl
theorem tB135 : tB Try.prog 135 = some 8 := by kernel_rfl
theorem tZ135 : tZ Try.prog 135 = some [.nilFunc] := by kernel_rfl
theorem tS136 : tS Try.prog 136 = some 1 := by kernel_rfl
theorem tA136 : tA Try.prog 136 = some false := by kernel_rfl
theorem tB136 : tB Try.prog 136 = some 8 := by kernel_rfl
theorem tZ136 : tZ Try.prog 136 = some [.nilFunc] := by kernel_rfl
theorem tS137 : tS Try.prog 137 = some 1 := by kernel_rfl
theorem tA137 : tA Try.prog 137 = some false := by kernel_rfl
theorem tB137 : tB Try.prog 137 = some 8 := by kernel_rfl
theorem tZ137 : tZ Try.prog 137 = some [.nilFunc] := by kernel_rfl
theorem tS138 : tS Try.prog 138 = some 1 := by kernel_rfl
theorem tA138 : tA Try.prog 138 = some false := by kernel_rfl
theorem tB138 : tB Try.prog 138 = some 8 := by kernel_rfl
theorem tZ138 : tZ Try.prog 138 = some [.nilFunc] := by kernel_rfl
theorem tS139 : tS Try.prog 139 = some 1 := by kernel_rfl
theorem tA139 : tA Try.prog 139 = some false := by kernel_rfl
theorem tB139 : tB Try.prog 139 = some 8 := by kernel_rfl
theorem tZ139 : tZ Try.prog 139 = some [.nilFunc] := by kernel_rfl
theorem tS140 : tS Try.prog 140 = some 1 := by kernel_rfl
theorem tA140 : tA Try.prog 140 = some false := by kernel_rfl
theorem tB140 : tB Try.prog 140 = some 8 := by kernel_rfl
theorem tZ140 : tZ Try.prog 140 = some [.nilFunc] := by kernel_rfl
theorem tS141 : tS Try.prog 141 = some 1 := by kernel_rfl
theorem tA141 : tA Try.prog 141 = some false := by kernel_rfl
theorem tB141 : tB Try.prog 141 = some 8 := by kernel_rfl
theorem tZ141 : tZ Try.prog 141 = some [.nilFunc] := by kernel_rfl
theorem tS142 : tS Try.prog 142 = some 1 := by kernel_rfl
theorem tA142 : tA Try.prog 142 = some false := by kernel_rfl
theorem tB142 : tB Try.prog 142 = some 8 := by kernel_rfl
theorem tZ142 : tZ Try.prog 142 = some [.pointer none] := by kernel_rfl
theorem tS143 : tS Try.prog 143 = some 1 := by kernel_rfl
theorem tA143 : tA Try.prog 143 = some false := by kernel_rfl
theorem tB143 : tB Try.prog 143 = some 8 := by kernel_rfl
theorem tZ143 : tZ Try.prog 143 = some [.pointer none] := by kernel_rfl
theorem tS144 : tS Try.prog 144 = some 1 := by kernel_rfl
theorem tA144 : tA Try.prog 144 = some false := by kernel_rfl
theorem tB144 : tB Try.prog 144 = some 8 := by kernel_rfl
theorem tZ144 : tZ Try.prog 144 = some [.nilFunc] := by kernel_rfl
theorem tS145 : tS Try.prog 145 = some 1 := by kernel_rfl
theorem tA145 : tA Try.prog 145 = some false := by kernel_rfl
theorem tB145 : tB Try.prog 145 = some 8 := by kernel_rfl
theorem tZ145 : tZ Try.prog 145 = some [.nilFunc] := by kernel_rfl
theorem tS146 : tS Try.prog 146 = some 1 := by kernel_rfl
theorem tA146 : tA Try.prog 146 = some false := by kernel_rfl
theorem tB146 : tB Try.prog 146 = some 8 := by kernel_rfl
theorem tZ146 : tZ Try.prog 146 = some [.nilFunc] := by kernel_rfl
theorem tS147 : tS Try.prog 147 = some 1 := by kernel_rfl
theorem tA147 : tA Try.prog 147 = some false := by kernel_rfl
theorem tB147 : tB Try.prog 147 = some 8 := by kernel_rfl
theorem tZ147 : tZ Try.prog 147 = some [.nilFunc] := by kernel_rfl
theorem tS148 : tS Try.prog 148 = some 1 := by kernel_rfl
theorem tA148 : tA Try.prog 148 = some false := by kernel_rfl
theorem tB148 : tB Try.prog 148 = some 8 := by kernel_rfl
theorem tZ148 : tZ Try.prog 148 = some [.nilFunc] := by kernel_rfl
theorem tS149 : tS Try.prog 149 = some 1 := by kernel_rfl
theorem tA149 : tA Try.prog 149 = some false := by kernel_rfl
theorem tB149 : tB Try.prog 149 = some 8 := by kernel_rfl
theorem tZ149 : tZ Try.prog 149 = some [.nilFunc] := by kernel_rfl
theorem tS150 : tS Try.prog 150 = some 1 := by kernel_rfl
theorem tA150 : tA Try.prog 150 = some false := by kernel_rfl
theorem tB150 : tB Try.prog 150 = some 8 := by kernel_rfl
theorem tZ150 : tZ Try.prog 150 = some [.nilFunc] := by kernel_rfl
theorem tS151 : tS Try.prog 151 = some 1 := by kernel_rfl
theorem tA151 : tA Try.prog 151 = some false := by kernel_rfl
theorem tB151 : tB Try.prog 151 = some 8 := by kernel_rfl
theorem tZ151 : tZ Try.prog 151 = some [.nilFunc] := by kernel_rfl
theorem tS152 : tS Try.prog 152 = some 1 := by kernel_rfl
theorem tA152 : tA Try.prog 152 = some false := by kernel_rfl
theorem tB152 : tB Try.prog 152 = some 8 := by kernel_rfl
theorem tZ152 : tZ Try.prog 152 = some [.nilFunc] := by kernel_rfl
theorem tS153 : tS Try.prog 153 = some 1 := by kernel_rfl
theorem tA153 : tA Try.prog 153 = some false := by kernel_rfl
theorem tB153 : tB Try.prog 153 = some 8 := by kernel_rfl
theorem tZ153 : tZ Try.prog 153 = some [.nilFunc] := by kernel_rfl
theorem tS154 : tS Try.prog 154 = some 1 := by kernel_rfl
theorem tA154 : tA Try.prog 154 = some false := by kernel_rfl
theorem tB154 : tB Try.prog 154 = some 8 := by kernel_rfl
theorem tZ154 : tZ Try.prog 154 = some [.nilFunc] := by kernel_rfl
theorem tS155 : tS Try.prog 155 = some 1 := by kernel_rfl
theorem tA155 : tA Try.prog 155 = some false := by kernel_rfl
theorem tB155 : tB Try.prog 155 = some 8 := by kernel_rfl
theorem tZ155 : tZ Try.prog 155 = some [.nilFunc] := by kernel_rfl
theorem tS156 : tS Try.prog 156 = some 1 := by kernel_rfl
theorem tA156 : tA Try.prog 156 = some false := by kernel_rfl
theorem tB156 : tB Try.prog 156 = some 8 := by kernel_rfl
theorem tZ156 : tZ Try.prog 156 = some [.nilFunc] := by kernel_rfl
theorem tS157 : tS Try.prog 157 = some 1 := by kernel_rfl
theorem tA157 : tA Try.prog 157 = some false := by kernel_rfl
theorem tB157 : tB Try.prog 157 = some 8 := by kernel_rfl
theorem tZ157 : tZ Try.prog 157 = some [.nilFunc] := by kernel_rfl
theorem tS158 : tS Try.prog 158 = some 2 := by kernel_rfl
theorem tA158 : tA Try.prog 158 = some true := by kernel_rfl
theorem tB158 : tB Try.prog 158 = some 32 := by kernel_rfl
theorem tZ158 : tZ Try.prog 158 = some [.slice none 0 0, .int .i64 0] := by kernel_rfl
theorem tF158_0 : tF Try.prog 158 0 = some (0, 88) := by kernel_rfl
theorem tF158_1 : tF Try.prog 158 1 = some (1, 33) := by kernel_rfl
theorem tP158 : tP Try.prog 158 = some [(0, 1), (1, 1)] := by kernel_rfl
theorem tS159 : tS Try.prog 159 = some 2 := by kernel_rfl
theorem tA159 : tA Try.prog 159 = some true := by kernel_rfl
theorem tB159 : tB Try.prog 159 = some 32 := by kernel_rfl
theorem tZ159 : tZ Try.prog 159 = some [.slice none 0 0, .int .i64 0] := by kernel_rfl
theorem tF159_0 : tF Try.prog 159 0 = some (0, 88) := by kernel_rfl
theorem tF159_1 : tF Try.prog 159 1 = some (1, 33) := by kernel_rfl
theorem tP159 : tP Try.prog 159 = some [(0, 1), (1, 1)] := by kernel_rfl
theorem tS160 : tS Try.prog 160 = some 2 := by kernel_rfl
theorem tA160 : tA Try.prog 160 = some true := by kernel_rfl
theorem tB160 : tB Try.prog 160 = some 32 := by kernel_rfl
theorem tZ160 : tZ Try.prog 160 = some [.slice none 0 0, .int .i64 0] := by kernel_rfl
theorem tF160_0 : tF Try.prog 160 0 = some (0, 159) := by kernel_rfl
theorem tP160 : tP Try.prog 160 = some [(0, 2)] := by kernel_rfl
theorem tS161 : tS Try.prog 161 = some 2 := by kernel_rfl
theorem tA161 : tA Try.prog 161 = some true := by kernel_rfl
theorem tB161 : tB Try.prog 161 = some 32 := by kernel_rfl
theorem tZ161 : tZ Try.prog 161 = some [.slice none 0 0, .int .i64 0] := by kernel_rfl
theorem tF161_0 : tF Try.prog 161 0 = some (0, 159) := by kernel_rfl
theorem tP161 : tP Try.prog 161 = some [(0, 2)] := by kernel_rfl
theorem tS162 : tS Try.prog 162 = some 1 := by kernel_rfl
theorem tA162 : tA Try.prog 162 = some false := by kernel_rfl
theorem tB162 : tB Try.prog 162 = some 8 := by kernel_rfl
theorem tZ162 : tZ Try.prog 162 = some [.nilFunc] := by kernel_rfl
theorem tS163 : tS Try.prog 163 = some 1 := by kernel_rfl
theorem tA163 : tA Try.prog 163 = some false := by kernel_rfl
theorem tB163 : tB Try.prog 163 = some 8 := by kernel_rfl
theorem tZ163 : tZ Try.prog 163 = some [.nilFunc] := by kernel_rfl
theorem tS164 : tS Try.prog 164 = some 1 := by kernel_rfl
theorem tA164 : tA Try.prog 164 = some false := by kernel_rfl
theorem tB164 : tB Try.prog 164 = some 8 := by kernel_rfl
theorem tZ164 : tZ Try.prog 164 = some [.nilFunc] := by kernel_rfl
theorem tS165 : tS Try.prog 165 = some 1 := by kernel_rfl
theorem tA165 : tA Try.prog 165 = some false := by kernel_rfl
theorem tB165 : tB Try.prog 165 = some 8 := by kernel_rfl
theorem tZ165 : tZ Try.prog 165 = some [.nilFunc] := by kernel_rfl
theorem tS166 : tS Try.prog 166 = some 1 := by kernel_rfl
theorem tA166 : tA Try.prog 166 = some false := by kernel_rfl
theorem tB166 : tB Try.prog 166 = some 8 := by kernel_rfl
theorem tZ166 : tZ Try.prog 166 = some [.nilFunc] := by kernel_rfl
theorem tS167 : tS Try.prog 167 = some 8 := by kernel_rfl
theorem tA167 : tA Try.prog 167 = some true := by kernel_rfl
theorem tB167 : tB Try.prog 167 = some 64 := by kernel_rfl
theorem tZ167 : tZ Try.prog 167 = some [.nilFunc, .nilFunc, .nilFunc, .nilFunc, .nilFunc, .nilFunc, .nilFunc, .nilFunc] := by kernel_rfl
theorem tR167 : tR Try.prog 167 = some (8, 166) := by kernel_rfl
theorem tE167 : tE Try.prog 167 = none := by kernel_rfl
theorem tP167 : tP Try.prog 167 = none := by kernel_rfl
theorem tS168 : tS Try.prog 168 = some 1 := by kernel_rfl
theorem tA168 : tA Try.prog 168 = some false := by kernel_rfl
theorem tB168 : tB Try.prog 168 = some 8 := by kernel_rfl
theorem tZ168 : tZ Try.prog 168 = some [.nilFunc] := by kernel_rfl
theorem tS170 : tS Try.prog 170 = some 1 := by kernel_rfl
theorem tA170 : tA Try.prog 170 = some false := by kernel_rfl
theorem tB170 : tB Try.prog 170 = some 8 := by kernel_rfl
theorem tZ170 : tZ Try.prog 170 = some [.nilFunc] := by kernel_rfl
theorem tS171 : tS Try.prog 171 = some 1 := by kernel_rfl
theorem tA171 : tA Try.prog 171 = some false := by kernel_rfl
theorem tB171 : tB Try.prog 171 = some 8 := by kernel_rfl
theorem tZ171 : tZ Try.prog 171 = some [.nilFunc] := by kernel_rfl
theorem tS172 : tS Try.prog 172 = some 1 := by kernel_rfl
theorem tA172 : tA Try.prog 172 = some false := by kernel_rfl
theorem tB172 : tB Try.prog 172 = some 8 := by kernel_rfl
theorem tZ172 : tZ Try.prog 172 = some [.nilFunc] := by kernel_rfl
theorem tS173 : tS Try.prog 173 = some 1 := by kernel_rfl
theorem tA173 : tA Try.prog 173 = some false := by kernel_rfl
theorem tB173 : tB Try.prog 173 = some 8 := by kernel_rfl
theorem tZ173 : tZ Try.prog 173 = some [.nilFunc] := by kernel_rfl
theorem tS174 : tS Try.prog 174 = some 1 := by kernel_rfl
theorem tA174 : tA Try.prog 174 = some false := by kernel_rfl
theorem tB174 : tB Try.prog 174 = some 8 := by kernel_rfl
theorem tZ174 : tZ Try.prog 174 = some [.nilFunc] := by kernel_rfl
theorem tS175 : tS Try.prog 175 = some 1 := by kernel_rfl
theorem tA175 : tA Try.prog 175 = some false := by kernel_rfl
theorem tB175 : tB Try.prog 175 = some 8 := by kernel_rfl
theorem tZ175 : tZ Try.prog 175 = some [.pointer none] := by kernel_rfl
theorem tS176 : tS Try.prog 176 = some 1 := by kernel_rfl
theorem tA176 : tA Try.prog 176 = some false := by kernel_rfl
theorem tB176 : tB Try.prog 176 = some 8 := by kernel_rfl
theorem tZ176 : tZ Try.prog 176 = some [.nilFunc] := by kernel_rfl
theorem tS177 : tS Try.prog 177 = some 1 := by kernel_rfl
theorem tA177 : tA Try.prog 177 = some false := by kernel_rfl
theorem tB177 : tB Try.prog 177 = some 8 := by kernel_rfl
theorem tZ177 : tZ Try.prog 177 = some [.nilFunc] := by kernel_rfl
theorem tS178 : tS Try.prog 178 = some 4 := by kernel_rfl
theorem tA178 : tA Try.prog 178 = some true := by kernel_rfl
theorem tB178 : tB Try.prog 178 = some 40 := by kernel_rfl
theorem tZ178 : tZ Try.prog 178 = some [.pointer none, .pointer none, .pointer none, .string ⟨#[]⟩] := by kernel_rfl
theorem tF178_0 : tF Try.prog 178 0 = some (0, 17) := by kernel_rfl
theorem tF178_1 : tF Try.prog 178 1 = some (1, 17) := by kernel_rfl
theorem tF178_2 : tF Try.prog 178 2 = some (2, 17) := by kernel_rfl
theorem tF178_3 : tF Try.prog 178 3 = some (3, 9) := by kernel_rfl
theorem tP178 : tP Try.prog 178 = some [(0, 1), (1, 1), (2, 1), (3, 1)] := by kernel_rfl
theorem tS180 : tS Try.prog 180 = some 0 := by kernel_rfl
theorem tA180 : tA Try.prog 180 = some true := by kernel_rfl
theorem tB180 : tB Try.prog 180 = some 0 := by kernel_rfl
theorem tZ180 : tZ Try.prog 180 = some [] := by kernel_rfl
theorem tR180 : tR Try.prog 180 = some (0, 16) := by kernel_rfl
theorem tE180 : tE Try.prog 180 = none := by kernel_rfl
theorem tP180 : tP Try.prog 180 = none := by kernel_rfl
theorem tS181 : tS Try.prog 181 = some 0 := by kernel_rfl
theorem tA181 : tA Try.prog 181 = some true := by kernel_rfl
theorem tB181 : tB Try.prog 181 = some 0 := by kernel_rfl
theorem tZ181 : tZ Try.prog 181 = some [] := by kernel_rfl
theorem tF181_0 : tF Try.prog 181 0 = some (0, 180) := by kernel_rfl
theorem tP181 : tP Try.prog 181 = some [(0, 0)] := by kernel_rfl
theorem tS183 : tS Try.prog 183 = some 1 := by kernel_rfl
theorem tA183 : tA Try.prog 183 = some false := by kernel_rfl
theorem tB183 : tB Try.prog 183 = some 8 := by kernel_rfl
theorem tZ183 : tZ Try.prog 183 = some [.nilFunc] := by kernel_rfl
theorem tS184 : tS Try.prog 184 = some 1 := by kernel_rfl
theorem tA184 : tA Try.prog 184 = some false := by kernel_rfl
theorem tB184 : tB Try.prog 184 = some 4 := by kernel_rfl
theorem tZ184 : tZ Try.prog 184 = some [.int .u32 0] := by kernel_rfl
theorem tU184 : Try.prog.underlying 184 = some (.int .u32) := by kernel_rfl
theorem tS185 : tS Try.prog 185 = some 1 := by kernel_rfl
theorem tA185 : tA Try.prog 185 = some false := by kernel_rfl
theorem tB185 : tB Try.prog 185 = some 1 := by kernel_rfl
theorem tZ185 : tZ Try.prog 185 = some [.int .u8 0] := by kernel_rfl
theorem tU185 : Try.prog.underlying 185 = some (.int .u8) := by kernel_rfl
theorem tS186 : tS Try.prog 186 = some 1 := by kernel_rfl
theorem tA186 : tA Try.prog 186 = some false := by kernel_rfl
theorem tB186 : tB Try.prog 186 = some 1 := by kernel_rfl
theorem tZ186 : tZ Try.prog 186 = some [.int .u8 0] := by kernel_rfl
theorem tU186 : Try.prog.underlying 186 = some (.int .u8) := by kernel_rfl
theorem tS187 : tS Try.prog 187 = some 1 := by kernel_rfl
theorem tA187 : tA Try.prog 187 = some false := by kernel_rfl
theorem tB187 : tB Try.prog 187 = some 8 := by kernel_rfl
theorem tZ187 : tZ Try.prog 187 = some [.nilFunc] := by kernel_rfl
theorem tS188 : tS Try.prog 188 = some 1 := by kernel_rfl
theorem tA188 : tA Try.prog 188 = some false := by kernel_rfl
theorem tB188 : tB Try.prog 188 = some 8 := by kernel_rfl
theorem tZ188 : tZ Try.prog 188 = some [.pointer none] := by kernel_rfl
theorem tS189 : tS Try.prog 189 = some 1 := by kernel_rfl
theorem tA189 : tA Try.prog 189 = some false := by kernel_rfl
theorem tB189 : tB Try.prog 189 = some 4 := by kernel_rfl
theorem tZ189 : tZ Try.prog 189 = some [.int .i32 0] := by kernel_rfl
theorem tU189 : Try.prog.underlying 189 = some (.int .i32) := by kernel_rfl
theorem tS190 : tS Try.prog 190 = some 1 := by kernel_rfl
theorem tA190 : tA Try.prog 190 = some false := by kernel_rfl
theorem tB190 : tB Try.prog 190 = some 4 := by kernel_rfl
theorem tZ190 : tZ Try.prog 190 = some [.int .i32 0] := by kernel_rfl
theorem tU190 : Try.prog.underlying 190 = some (.int .i32) := by kernel_rfl
theorem tS191 : tS Try.prog 191 = some 11 := by kernel_rfl
theorem tA191 : tA Try.prog 191 = some true := by kernel_rfl
theorem tB191 : tB Try.prog 191 = some 48 := by kernel_rfl
theorem tZ191 : tZ Try.prog 191 = some [.int .u64 0, .int .u64 0, .int .u32 0, .int .u8 0, .int .u8 0, .int .u8 0, .int .u8 0, .nilFunc, .pointer none, .int .i32 0, .int .i32 0] := by kernel_rfl
theorem tF191_0 : tF Try.prog 191 0 = some (0, 12) := by kernel_rfl
theorem tF191_1 : tF Try.prog 191 1 = some (1, 12) := by kernel_rfl
theorem tF191_2 : tF Try.prog 191 2 = some (2, 184) := by kernel_rfl
theorem tF191_3 : tF Try.prog 191 3 = some (3, 185) := by kernel_rfl
theorem tF191_4 : tF Try.prog 191 4 = some (4, 5) := by kernel_rfl
theorem tF191_5 : tF Try.prog 191 5 = some (5, 5) := by kernel_rfl
theorem tF191_6 : tF Try.prog 191 6 = some (6, 186) := by kernel_rfl
theorem tF191_7 : tF Try.prog 191 7 = some (7, 187) := by kernel_rfl
theorem tF191_8 : tF Try.prog 191 8 = some (8, 188) := by kernel_rfl
theorem tF191_9 : tF Try.prog 191 9 = some (9, 189) := by kernel_rfl
theorem tF191_10 : tF Try.prog 191 10 = some (10, 190) := by kernel_rfl
theorem tP191 : tP Try.prog 191 = some [(0, 1), (1, 1), (2, 1), (3, 1), (4, 1), (5, 1), (6, 1), (7, 1), (8, 1), (9, 1), (10, 1)] := by kernel_rfl
theorem tS192 : tS Try.prog 192 = some 11 := by kernel_rfl
theorem tA192 : tA Try.prog 192 = some true := by kernel_rfl
theorem tB192 : tB Try.prog 192 = some 48 := by kernel_rfl
theorem tZ192 : tZ Try.prog 192 = some [.int .u64 0, .int .u64 0, .int .u32 0, .int .u8 0, .int .u8 0, .int .u8 0, .int .u8 0, .nilFunc, .pointer none, .int .i32 0, .int .i32 0] := by kernel_rfl
theorem tF192_0 : tF Try.prog 192 0 = some (0, 12) := by kernel_rfl
theorem tF192_1 : tF Try.prog 192 1 = some (1, 12) := by kernel_rfl
theorem tF192_2 : tF Try.prog 192 2 = some (2, 184) := by kernel_rfl
theorem tF192_3 : tF Try.prog 192 3 = some (3, 185) := by kernel_rfl
theorem tF192_4 : tF Try.prog 192 4 = some (4, 5) := by kernel_rfl
theorem tF192_5 : tF Try.prog 192 5 = some (5, 5) := by kernel_rfl
theorem tF192_6 : tF Try.prog 192 6 = some (6, 186) := by kernel_rfl
theorem tF192_7 : tF Try.prog 192 7 = some (7, 187) := by kernel_rfl
theorem tF192_8 : tF Try.prog 192 8 = some (8, 188) := by kernel_rfl
theorem tF192_9 : tF Try.prog 192 9 = some (9, 189) := by kernel_rfl
theorem tF192_10 : tF Try.prog 192 10 = some (10, 190) := by kernel_rfl
theorem tP192 : tP Try.prog 192 = some [(0, 1), (1, 1), (2, 1), (3, 1), (4, 1), (5, 1), (6, 1), (7, 1), (8, 1), (9, 1), (10, 1)] := by kernel_rfl
theorem tS193 : tS Try.prog 193 = some 1 := by kernel_rfl
theorem tA193 : tA Try.prog 193 = some false := by kernel_rfl
theorem tB193 : tB Try.prog 193 = some 8 := by kernel_rfl
theorem tZ193 : tZ Try.prog 193 = some [.pointer none] := by kernel_rfl
set_option maxHeartbeats 1000000 in
theorem eqT26 (a0 b0 a1 b1 : Int) (w : World) : (Op.equalIn 10000 26 (.agg #[.int .i64 a0, .int .i64 a1]) (.agg #[.int .i64 b0, .int .i64 b1])).run Try.prog w = .ok ((decide (a0 = b0) && decide (a1 = b1))) w := by
  simp [go_sem, Try.underlying2, Try.underlying26]
  (repeat' split) <;> simp_all
set_option maxHeartbeats 1000000 in
theorem eqT54 (a0 b0 a1 b1 a2 b2 : Int) (w : World) : (Op.equalIn 10000 54 (.agg #[.int .i64 a0, .int .i64 a1, .int .i64 a2]) (.agg #[.int .i64 b0, .int .i64 b1, .int .i64 b2])).run Try.prog w = .ok ((decide (a0 = b0) && (decide (a1 = b1) && decide (a2 = b2)))) w := by
  simp [go_sem, Try.underlying2, Try.underlying3, Try.underlying54]
  (repeat' split) <;> simp_all
set_option maxHeartbeats 1000000 in
theorem eqT80 (a0 b0 a1 b1 a2 b2 a3 b3 : Int) (w : World) : (Op.equalIn 10000 80 (.agg #[.int .i64 a0, .int .i64 a1, .int .i64 a2, .int .i64 a3]) (.agg #[.int .i64 b0, .int .i64 b1, .int .i64 b2, .int .i64 b3])).run Try.prog w = .ok ((decide (a0 = b0) && (decide (a1 = b1) && (decide (a2 = b2) && decide (a3 = b3))))) w := by
  simp [go_sem, Try.underlying2, Try.underlying3, Try.underlying26, Try.underlying80]
  (repeat' split) <;> simp_all
def eqTab : TypeId → List Value → List Value → Option Bool
  | 26, [.int .i64 a0, .int .i64 a1], [.int .i64 b0, .int .i64 b1] => some ((decide (a0 = b0) && decide (a1 = b1)))
  | 54, [.int .i64 a0, .int .i64 a1, .int .i64 a2], [.int .i64 b0, .int .i64 b1, .int .i64 b2] => some ((decide (a0 = b0) && (decide (a1 = b1) && decide (a2 = b2))))
  | 80, [.int .i64 a0, .int .i64 a1, .int .i64 a2, .int .i64 a3], [.int .i64 b0, .int .i64 b1, .int .i64 b2, .int .i64 b3] => some ((decide (a0 = b0) && (decide (a1 = b1) && (decide (a2 = b2) && decide (a3 = b3)))))
  | _, _, _ => none
theorem eqTab_ok : ∀ t us vs b, eqTab t us vs = some b → Try.prog.eqGuardType Try.prog.depth t = false ∧ ∀ w : World, (Op.equalIn 10000 t (.agg us.toArray) (.agg vs.toArray)).run Try.prog w = .ok b w := by
  intro t us vs b h
  unfold eqTab at h
  split at h
  · cases h; exact ⟨by kernel_rfl, fun w => eqT26 _ _ _ _ w⟩
  · cases h; exact ⟨by kernel_rfl, fun w => eqT54 _ _ _ _ _ _ w⟩
  · cases h; exact ⟨by kernel_rfl, fun w => eqT80 _ _ _ _ _ _ _ _ w⟩
  · cases h
theorem mixed : Try.prog.follows .mixedOrders = true := by kernel_rfl
/-- what is known of the program at the outset -/
def E0 : Env Try.prog := ⟨eqTab, eqTab_ok, fun _ _ => none, by simp⟩
def cl0 : FuncId → List AV → Option AV := fun _ _ => none
attribute [push_cast] tS1 tA1 tB1 tZ1 tS2 tA2 tB2 tZ2 tU2 tS3 tA3 tB3 tZ3 tU3 tS4 tA4 tB4 tZ4 tU4 tS5 tA5 tB5 tZ5 tU5 tS6 tA6 tB6 tZ6 tU6 tS7 tA7 tB7 tZ7 tF7_0 tF7_1 tF7_2 tF7_3 tP7 tS9 tA9 tB9 tZ9 tU9 tS12 tA12 tB12 tZ12 tU12 tS13 tA13 tB13 tZ13 tF13_0 tF13_1 tP13 tS15 tA15 tB15 tZ15 tS16 tA16 tB16 tZ16 tS17 tA17 tB17 tZ17 tS18 tA18 tB18 tZ18 tF18_0 tP18 tS19 tA19 tB19 tZ19 tF19_0 tP19 tS21 tA21 tB21 tZ21 tU21 tS22 tA22 tB22 tZ22 tE22 tR22 tU22 tS23 tA23 tB23 tZ23 tF23_0 tF23_1 tF23_2 tF23_3 tF23_4 tP23 tS24 tA24 tB24 tZ24 tF24_0 tF24_1 tF24_2 tF24_3 tF24_4 tP24 tS25 tA25 tB25 tZ25 tF25_0 tF25_1 tP25 tS26 tA26 tB26 tZ26 tF26_0 tF26_1 tP26 tS27 tA27 tB27 tZ27 tF27_0 tF27_1 tP27 tS28 tA28 tB28 tZ28 tF28_0 tF28_1 tP28 tS29 tA29 tB29 tZ29 tE29 tR29 tU29 tS30 tA30 tB30 tZ30 tS31 tA31 tB31 tZ31 tS32 tA32 tB32 tZ32 tS33 tA33 tB33 tZ33 tU33 tS35 tA35 tB35 tZ35 tS36 tA36 tB36 tZ36 tS37 tA37 tB37 tZ37 tS38 tA38 tB38 tZ38 tE38 tR38 tU38 tS39 tA39 tB39 tZ39 tS40 tA40 tB40 tZ40 tS41 tA41 tB41 tZ41 tS42 tA42 tB42 tZ42 tS43 tA43 tB43 tZ43 tE43 tR43 tU43 tS45 tA45 tB45 tZ45 tS46 tA46 tB46 tZ46 tS47 tA47 tB47 tZ47 tE47 tR47 tU47 tS48 tA48 tB48 tZ48 tF48_0 tP48 tS49 tA49 tB49 tZ49 tF49_0 tP49 tS50 tA50 tB50 tZ50 tE50 tR50 tU50 tS51 tA51 tB51 tZ51 tS52 tA52 tB52 tZ52 tS53 tA53 tB53 tZ53 tF53_0 tF53_1 tF53_2 tP53 tS54 tA54 tB54 tZ54 tF54_0 tF54_1 tF54_2 tP54 tS56 tA56 tB56 tZ56 tS57 tA57 tB57 tZ57 tS58 tA58 tB58 tZ58 tS59 tA59 tB59 tZ59 tS60 tA60 tB60 tZ60 tS61 tA61 tB61 tZ61 tS62 tA62 tB62 tZ62 tE62 tR62 tU62 tS63 tA63 tB63 tZ63 tF63_0 tF63_1 tP63 tS64 tA64 tB64 tZ64 tF64_0 tF64_1 tP64 tS66 tA66 tB66 tZ66 tS67 tA67 tB67 tZ67 tS68 tA68 tB68 tZ68 tE68 tR68 tU68 tS69 tA69 tB69 tZ69 tF69_0 tF69_1 tP69 tS70 tA70 tB70 tZ70 tF70_0 tF70_1 tP70 tS71 tA71 tB71 tZ71 tS72 tA72 tB72 tZ72 tS73 tA73 tB73 tZ73 tS74 tA74 tB74 tZ74 tS75 tA75 tB75 tZ75 tS76 tA76 tB76 tZ76 tS77 tA77 tB77 tZ77 tS78 tA78 tB78 tZ78 tU78 tS79 tA79 tB79 tZ79 tF79_0 tF79_1 tF79_2 tP79 tS80 tA80 tB80 tZ80 tF80_0 tF80_1 tF80_2 tP80 tS81 tA81 tB81 tZ81 tS82 tA82 tB82 tZ82 tS83 tA83 tB83 tZ83 tE83 tR83 tU83 tS84 tA84 tB84 tZ84 tS85 tA85 tB85 tZ85 tS86 tA86 tB86 tZ86 tS87 tA87 tB87 tZ87 tE87 tR87 tU87 tS88 tA88 tB88 tZ88 tE88 tR88 tU88 tS90 tA90 tB90 tZ90 tS91 tA91 tB91 tZ91 tS92 tA92 tB92 tZ92 tS93 tA93 tB93 tZ93 tS94 tA94 tB94 tZ94 tS95 tA95 tB95 tZ95 tS96 tA96 tB96 tZ96 tS97 tA97 tB97 tZ97 tS98 tA98 tB98 tZ98 tS99 tA99 tB99 tZ99 tS100 tA100 tB100 tZ100 tS101 tA101 tB101 tZ101 tS102 tA102 tB102 tZ102 tS103 tA103 tB103 tZ103 tS104 tA104 tB104 tZ104 tS105 tA105 tB105 tZ105 tS106 tA106 tB106 tZ106 tS107 tA107 tB107 tZ107 tS108 tA108 tB108 tZ108 tS109 tA109 tB109 tZ109 tS111 tA111 tB111 tZ111 tS112 tA112 tB112 tZ112 tS113 tA113 tB113 tZ113 tS114 tA114 tB114 tZ114 tS115 tA115 tB115 tZ115 tS116 tA116 tB116 tZ116 tS117 tA117 tB117 tZ117 tS119 tA119 tB119 tZ119 tS120 tA120 tB120 tZ120 tS121 tA121 tB121 tZ121 tS122 tA122 tB122 tZ122 tS124 tA124 tB124 tZ124 tS125 tA125 tB125 tZ125 tS126 tA126 tB126 tZ126 tS127 tA127 tB127 tZ127 tS128 tA128 tB128 tZ128 tS129 tA129 tB129 tZ129 tU129 tS130 tA130 tB130 tZ130 tS131 tA131 tB131 tZ131 tU131 tS132 tA132 tB132 tZ132 tS133 tA133 tB133 tZ133 tS134 tA134 tB134 tZ134 tS135 tA135 tB135 tZ135 tS136 tA136 tB136 tZ136 tS137 tA137 tB137 tZ137 tS138 tA138 tB138 tZ138 tS139 tA139 tB139 tZ139 tS140 tA140 tB140 tZ140 tS141 tA141 tB141 tZ141 tS142 tA142 tB142 tZ142 tS143 tA143 tB143 tZ143 tS144 tA144 tB144 tZ144 tS145 tA145 tB145 tZ145 tS146 tA146 tB146 tZ146 tS147 tA147 tB147 tZ147 tS148 tA148 tB148 tZ148 tS149 tA149 tB149 tZ149 tS150 tA150 tB150 tZ150 tS151 tA151 tB151 tZ151 tS152 tA152 tB152 tZ152 tS153 tA153 tB153 tZ153 tS154 tA154 tB154 tZ154 tS155 tA155 tB155 tZ155 tS156 tA156 tB156 tZ156 tS157 tA157 tB157 tZ157 tS158 tA158 tB158 tZ158 tF158_0 tF158_1 tP158 tS159 tA159 tB159 tZ159 tF159_0 tF159_1 tP159 tS160 tA160 tB160 tZ160 tF160_0 tP160 tS161 tA161 tB161 tZ161 tF161_0 tP161 tS162 tA162 tB162 tZ162 tS163 tA163 tB163 tZ163 tS164 tA164 tB164 tZ164 tS165 tA165 tB165 tZ165 tS166 tA166 tB166 tZ166 tS167 tA167 tB167 tZ167 tR167 tE167 tP167 tS168 tA168 tB168 tZ168 tS170 tA170 tB170 tZ170 tS171 tA171 tB171 tZ171 tS172 tA172 tB172 tZ172 tS173 tA173 tB173 tZ173 tS174 tA174 tB174 tZ174 tS175 tA175 tB175 tZ175 tS176 tA176 tB176 tZ176 tS177 tA177 tB177 tZ177 tS178 tA178 tB178 tZ178 tF178_0 tF178_1 tF178_2 tF178_3 tP178 tS180 tA180 tB180 tZ180 tR180 tE180 tP180 tS181 tA181 tB181 tZ181 tF181_0 tP181 tS183 tA183 tB183 tZ183 tS184 tA184 tB184 tZ184 tU184 tS185 tA185 tB185 tZ185 tU185 tS186 tA186 tB186 tZ186 tU186 tS187 tA187 tB187 tZ187 tS188 tA188 tB188 tZ188 tS189 tA189 tB189 tZ189 tU189 tS190 tA190 tB190 tZ190 tU190 tS191 tA191 tB191 tZ191 tF191_0 tF191_1 tF191_2 tF191_3 tF191_4 tF191_5 tF191_6 tF191_7 tF191_8 tF191_9 tF191_10 tP191 tS192 tA192 tB192 tZ192 tF192_0 tF192_1 tF192_2 tF192_3 tF192_4 tF192_5 tF192_6 tF192_7 tF192_8 tF192_9 tF192_10 tP192 tS193 tA193 tB193 tZ193 eqTab
theorem E0_cl : E0.cl = cl0 := rfl
theorem E0_eq : E0.eq = eqTab := rfl
attribute [push_cast] E0_cl E0_eq cl0
end Go.Proofs.Ytmkncbddjnaklaa
