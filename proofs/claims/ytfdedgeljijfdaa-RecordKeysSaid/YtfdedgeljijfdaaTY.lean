/- Facts on the types of the program. -/
import Derived.Test.YtfdedgeljijfdaaProg
import Derived.Test.YtfdedgeljijfdaaMC
namespace Go.Proofs.Ytfdedgeljijfdaa
set_option linter.unusedVariables false

theorem tS1 : tS Try.prog 1 = some 1 := by kernel_rfl
theorem tA1 : tA Try.prog 1 = some false := by kernel_rfl
theorem tB1 : tB Try.prog 1 = some 8 := by kernel_rfl
theorem tZ1 : tZ Try.prog 1 = some [.nilFunc] := by kernel_rfl
theorem tS2 : tS Try.prog 2 = some 1 := by kernel_rfl
theorem tA2 : tA Try.prog 2 = some false := by kernel_rfl
theorem tB2 : tB Try.prog 2 = some 8 := by kernel_rfl
theorem tZ2 : tZ Try.prog 2 = some [.int .i64 0] := by kernel_rfl
theorem tU2 : Try.prog.underlying 2 = some (.int .i64) := by kernel_rfl
theorem tS3 : tS Try.prog 3 = some 1 := by kernel_rfl
theorem tA3 : tA Try.prog 3 = some false := by kernel_rfl
theorem tB3 : tB Try.prog 3 = some 8 := by kernel_rfl
theorem tZ3 : tZ Try.prog 3 = some [.int .i64 0] := by kernel_rfl
theorem tU3 : Try.prog.underlying 3 = some (.int .i64) := by kernel_rfl
theorem tS4 : tS Try.prog 4 = some 1 := by kernel_rfl
theorem tA4 : tA Try.prog 4 = some false := by kernel_rfl
theorem tB4 : tB Try.prog 4 = some 1 := by kernel_rfl
theorem tZ4 : tZ Try.prog 4 = some [.bool false] := by kernel_rfl
theorem tU4 : Try.prog.underlying 4 = some .bool := by kernel_rfl
theorem tS5 : tS Try.prog 5 = some 1 := by kernel_rfl
theorem tA5 : tA Try.prog 5 = some false := by kernel_rfl
theorem tB5 : tB Try.prog 5 = some 1 := by kernel_rfl
theorem tZ5 : tZ Try.prog 5 = some [.int .u8 0] := by kernel_rfl
theorem tU5 : Try.prog.underlying 5 = some (.int .u8) := by kernel_rfl
theorem tS6 : tS Try.prog 6 = some 1 := by kernel_rfl
theorem tA6 : tA Try.prog 6 = some false := by kernel_rfl
theorem tB6 : tB Try.prog 6 = some 1 := by kernel_rfl
theorem tZ6 : tZ Try.prog 6 = some [.int .u8 0] := by kernel_rfl
theorem tU6 : Try.prog.underlying 6 = some (.int .u8) := by kernel_rfl
theorem tS7 : tS Try.prog 7 = some 4 := by kernel_rfl
theorem tA7 : tA Try.prog 7 = some true := by kernel_rfl
theorem tB7 : tB Try.prog 7 = some 24 := by kernel_rfl
theorem tZ7 : tZ Try.prog 7 = some [.int .i64 0, .int .i64 0, .bool false, .int .u8 0] := by kernel_rfl
theorem tF7_0 : tF Try.prog 7 0 = some (0, 2) := by kernel_rfl
theorem tF7_1 : tF Try.prog 7 1 = some (1, 3) := by kernel_rfl
theorem tF7_2 : tF Try.prog 7 2 = some (2, 4) := by kernel_rfl
theorem tF7_3 : tF Try.prog 7 3 = some (3, 6) := by kernel_rfl
theorem tP7 : tP Try.prog 7 = some [(0, 1), (1, 1), (2, 1), (3, 1)] := by kernel_rfl
theorem tS9 : tS Try.prog 9 = some 1 := by kernel_rfl
theorem tA9 : tA Try.prog 9 = some false := by kernel_rfl
theorem tB9 : tB Try.prog 9 = some 16 := by kernel_rfl
theorem tZ9 : tZ Try.prog 9 = some [.string ⟨#[]⟩] := by kernel_rfl
theorem tU9 : Try.prog.underlying 9 = some .string := by kernel_rfl
theorem tS12 : tS Try.prog 12 = some 1 := by kernel_rfl
theorem tA12 : tA Try.prog 12 = some false := by kernel_rfl
theorem tB12 : tB Try.prog 12 = some 8 := by kernel_rfl
theorem tZ12 : tZ Try.prog 12 = some [.int .u64 0] := by kernel_rfl
theorem tU12 : Try.prog.underlying 12 = some (.int .u64) := by kernel_rfl
theorem tS13 : tS Try.prog 13 = some 2 := by kernel_rfl
theorem tA13 : tA Try.prog 13 = some true := by kernel_rfl
theorem tB13 : tB Try.prog 13 = some 24 := by kernel_rfl
theorem tZ13 : tZ Try.prog 13 = some [.string ⟨#[]⟩, .int .u64 0] := by kernel_rfl
theorem tF13_0 : tF Try.prog 13 0 = some (0, 9) := by kernel_rfl
theorem tF13_1 : tF Try.prog 13 1 = some (1, 12) := by kernel_rfl
theorem tP13 : tP Try.prog 13 = some [(0, 1), (1, 1)] := by kernel_rfl
theorem tS15 : tS Try.prog 15 = some 1 := by kernel_rfl
theorem tA15 : tA Try.prog 15 = some false := by kernel_rfl
theorem tB15 : tB Try.prog 15 = some 8 := by kernel_rfl
theorem tZ15 : tZ Try.prog 15 = some [.pointer none] := by kernel_rfl
theorem tS16 : tS Try.prog 16 = some 1 := by kernel_rfl
theorem tA16 : tA Try.prog 16 = some false := by kernel_rfl
theorem tB16 : tB Try.prog 16 = some 8 := by kernel_rfl
theorem tZ16 : tZ Try.prog 16 = some [.pointer none] := by kernel_rfl
theorem tS17 : tS Try.prog 17 = some 1 := by kernel_rfl
theorem tA17 : tA Try.prog 17 = some false := by kernel_rfl
theorem tB17 : tB Try.prog 17 = some 8 := by kernel_rfl
theorem tZ17 : tZ Try.prog 17 = some [.pointer none] := by kernel_rfl
theorem tS18 : tS Try.prog 18 = some 1 := by kernel_rfl
theorem tA18 : tA Try.prog 18 = some true := by kernel_rfl
theorem tB18 : tB Try.prog 18 = some 8 := by kernel_rfl
theorem tZ18 : tZ Try.prog 18 = some [.pointer none] := by kernel_rfl
theorem tF18_0 : tF Try.prog 18 0 = some (0, 17) := by kernel_rfl
theorem tP18 : tP Try.prog 18 = some [(0, 1)] := by kernel_rfl
theorem tS19 : tS Try.prog 19 = some 1 := by kernel_rfl
theorem tA19 : tA Try.prog 19 = some true := by kernel_rfl
theorem tB19 : tB Try.prog 19 = some 8 := by kernel_rfl
theorem tZ19 : tZ Try.prog 19 = some [.pointer none] := by kernel_rfl
theorem tF19_0 : tF Try.prog 19 0 = some (0, 17) := by kernel_rfl
theorem tP19 : tP Try.prog 19 = some [(0, 1)] := by kernel_rfl
theorem tS21 : tS Try.prog 21 = some 1 := by kernel_rfl
theorem tA21 : tA Try.prog 21 = some false := by kernel_rfl
theorem tB21 : tB Try.prog 21 = some 4 := by kernel_rfl
theorem tZ21 : tZ Try.prog 21 = some [.int .i32 0] := by kernel_rfl
theorem tU21 : Try.prog.underlying 21 = some (.int .i32) := by kernel_rfl
theorem tS22 : tS Try.prog 22 = some 1 := by kernel_rfl
theorem tA22 : tA Try.prog 22 = some false := by kernel_rfl
theorem tB22 : tB Try.prog 22 = some 24 := by kernel_rfl
theorem tZ22 : tZ Try.prog 22 = some [.slice none 0 0] := by kernel_rfl
theorem tE22 : tE Try.prog 22 = some 5 := by kernel_rfl
theorem tR22 : tR Try.prog 22 = none := by kernel_rfl
theorem tU22 : Try.prog.underlying 22 = some (.slice 5) := by kernel_rfl
theorem tS23 : tS Try.prog 23 = some 1 := by kernel_rfl
theorem tA23 : tA Try.prog 23 = some false := by kernel_rfl
theorem tB23 : tB Try.prog 23 = some 8 := by kernel_rfl
theorem tZ23 : tZ Try.prog 23 = some [.nilFunc] := by kernel_rfl
theorem tS24 : tS Try.prog 24 = some 1 := by kernel_rfl
theorem tA24 : tA Try.prog 24 = some false := by kernel_rfl
theorem tB24 : tB Try.prog 24 = some 24 := by kernel_rfl
theorem tZ24 : tZ Try.prog 24 = some [.slice none 0 0] := by kernel_rfl
theorem tE24 : tE Try.prog 24 = some 37 := by kernel_rfl
theorem tR24 : tR Try.prog 24 = none := by kernel_rfl
theorem tU24 : Try.prog.underlying 24 = some (.slice 37) := by kernel_rfl
theorem tS25 : tS Try.prog 25 = some 1 := by kernel_rfl
theorem tA25 : tA Try.prog 25 = some false := by kernel_rfl
theorem tB25 : tB Try.prog 25 = some 8 := by kernel_rfl
theorem tZ25 : tZ Try.prog 25 = some [.int .i64 0] := by kernel_rfl
theorem tU25 : Try.prog.underlying 25 = some (.int .i64) := by kernel_rfl
theorem tS27 : tS Try.prog 27 = some 1 := by kernel_rfl
theorem tA27 : tA Try.prog 27 = some false := by kernel_rfl
theorem tB27 : tB Try.prog 27 = some 8 := by kernel_rfl
theorem tZ27 : tZ Try.prog 27 = some [.nilFunc] := by kernel_rfl
theorem tS28 : tS Try.prog 28 = some 1 := by kernel_rfl
theorem tA28 : tA Try.prog 28 = some false := by kernel_rfl
theorem tB28 : tB Try.prog 28 = some 8 := by kernel_rfl
theorem tZ28 : tZ Try.prog 28 = some [.nilFunc] := by kernel_rfl
theorem tS29 : tS Try.prog 29 = some 1 := by kernel_rfl
theorem tA29 : tA Try.prog 29 = some false := by kernel_rfl
theorem tB29 : tB Try.prog 29 = some 8 := by kernel_rfl
theorem tZ29 : tZ Try.prog 29 = some [.nilFunc] := by kernel_rfl
theorem tS31 : tS Try.prog 31 = some 1 := by kernel_rfl
theorem tA31 : tA Try.prog 31 = some false := by kernel_rfl
theorem tB31 : tB Try.prog 31 = some 8 := by kernel_rfl
theorem tZ31 : tZ Try.prog 31 = some [.nilFunc] := by kernel_rfl
theorem tS32 : tS Try.prog 32 = some 1 := by kernel_rfl
theorem tA32 : tA Try.prog 32 = some false := by kernel_rfl
theorem tB32 : tB Try.prog 32 = some 8 := by kernel_rfl
theorem tZ32 : tZ Try.prog 32 = some [.nilFunc] := by kernel_rfl
theorem tS33 : tS Try.prog 33 = some 3 := by kernel_rfl
theorem tA33 : tA Try.prog 33 = some true := by kernel_rfl
theorem tB33 : tB Try.prog 33 = some 24 := by kernel_rfl
theorem tZ33 : tZ Try.prog 33 = some [.int .i64 0, .int .i64 0, .int .i64 0] := by kernel_rfl
theorem tF33_0 : tF Try.prog 33 0 = some (0, 3) := by kernel_rfl
theorem tF33_1 : tF Try.prog 33 1 = some (1, 3) := by kernel_rfl
theorem tF33_2 : tF Try.prog 33 2 = some (2, 2) := by kernel_rfl
theorem tP33 : tP Try.prog 33 = some [(0, 1), (1, 1), (2, 1)] := by kernel_rfl
theorem tS34 : tS Try.prog 34 = some 3 := by kernel_rfl
theorem tA34 : tA Try.prog 34 = some true := by kernel_rfl
theorem tB34 : tB Try.prog 34 = some 24 := by kernel_rfl
theorem tZ34 : tZ Try.prog 34 = some [.int .i64 0, .int .i64 0, .int .i64 0] := by kernel_rfl
theorem tF34_0 : tF Try.prog 34 0 = some (0, 3) := by kernel_rfl
theorem tF34_1 : tF Try.prog 34 1 = some (1, 3) := by kernel_rfl
theorem tF34_2 : tF Try.prog 34 2 = some (2, 2) := by kernel_rfl
theorem tP34 : tP Try.prog 34 = some [(0, 1), (1, 1), (2, 1)] := by kernel_rfl
theorem tS35 : tS Try.prog 35 = some 1 := by kernel_rfl
theorem tA35 : tA Try.prog 35 = some false := by kernel_rfl
theorem tB35 : tB Try.prog 35 = some 8 := by kernel_rfl
theorem tZ35 : tZ Try.prog 35 = some [.int .u64 0] := by kernel_rfl
theorem tU35 : Try.prog.underlying 35 = some (.int .u64) := by kernel_rfl
theorem tS36 : tS Try.prog 36 = some 5 := by kernel_rfl
theorem tA36 : tA Try.prog 36 = some true := by kernel_rfl
theorem tB36 : tB Try.prog 36 = some 40 := by kernel_rfl
theorem tZ36 : tZ Try.prog 36 = some [.int .i64 0, .int .i64 0, .int .i64 0, .int .i64 0, .int .u64 0] := by kernel_rfl
theorem tF36_0 : tF Try.prog 36 0 = some (0, 3) := by kernel_rfl
theorem tF36_1 : tF Try.prog 36 1 = some (1, 34) := by kernel_rfl
theorem tF36_2 : tF Try.prog 36 2 = some (4, 35) := by kernel_rfl
theorem tP36 : tP Try.prog 36 = some [(0, 1), (1, 3), (4, 1)] := by kernel_rfl
theorem tS37 : tS Try.prog 37 = some 5 := by kernel_rfl
theorem tA37 : tA Try.prog 37 = some true := by kernel_rfl
theorem tB37 : tB Try.prog 37 = some 40 := by kernel_rfl
theorem tZ37 : tZ Try.prog 37 = some [.int .i64 0, .int .i64 0, .int .i64 0, .int .i64 0, .int .u64 0] := by kernel_rfl
theorem tF37_0 : tF Try.prog 37 0 = some (0, 3) := by kernel_rfl
theorem tF37_1 : tF Try.prog 37 1 = some (1, 34) := by kernel_rfl
theorem tF37_2 : tF Try.prog 37 2 = some (4, 35) := by kernel_rfl
theorem tP37 : tP Try.prog 37 = some [(0, 1), (1, 3), (4, 1)] := by kernel_rfl
theorem tS38 : tS Try.prog 38 = some 1 := by kernel_rfl
theorem tA38 : tA Try.prog 38 = some false := by kernel_rfl
theorem tB38 : tB Try.prog 38 = some 8 := by kernel_rfl
theorem tZ38 : tZ Try.prog 38 = some [.nilFunc] := by kernel_rfl
theorem tS39 : tS Try.prog 39 = some 1 := by kernel_rfl
theorem tA39 : tA Try.prog 39 = some false := by kernel_rfl
theorem tB39 : tB Try.prog 39 = some 8 := by kernel_rfl
theorem tZ39 : tZ Try.prog 39 = some [.nilFunc] := by kernel_rfl
theorem tS40 : tS Try.prog 40 = some 1 := by kernel_rfl
theorem tA40 : tA Try.prog 40 = some false := by kernel_rfl
theorem tB40 : tB Try.prog 40 = some 8 := by kernel_rfl
theorem tZ40 : tZ Try.prog 40 = some [.nilFunc] := by kernel_rfl
theorem tS41 : tS Try.prog 41 = some 1 := by kernel_rfl
theorem tA41 : tA Try.prog 41 = some false := by kernel_rfl
theorem tB41 : tB Try.prog 41 = some 8 := by kernel_rfl
theorem tZ41 : tZ Try.prog 41 = some [.nilFunc] := by kernel_rfl
theorem tS42 : tS Try.prog 42 = some 1 := by kernel_rfl
theorem tA42 : tA Try.prog 42 = some false := by kernel_rfl
theorem tB42 : tB Try.prog 42 = some 8 := by kernel_rfl
theorem tZ42 : tZ Try.prog 42 = some [.nilFunc] := by kernel_rfl
theorem tS43 : tS Try.prog 43 = some 1 := by kernel_rfl
theorem tA43 : tA Try.prog 43 = some false := by kernel_rfl
theorem tB43 : tB Try.prog 43 = some 8 := by kernel_rfl
theorem tZ43 : tZ Try.prog 43 = some [.nilFunc] := by kernel_rfl
theorem tS44 : tS Try.prog 44 = some 1 := by kernel_rfl
theorem tA44 : tA Try.prog 44 = some false := by kernel_rfl
theorem tB44 : tB Try.prog 44 = some 8 := by kernel_rfl
theorem tZ44 : tZ Try.prog 44 = some [.nilFunc] := by kernel_rfl
theorem tS45 : tS Try.prog 45 = some 1 := by kernel_rfl
theorem tA45 : tA Try.prog 45 = some false := by kernel_rfl
theorem tB45 : tB Try.prog 45 = some 8 := by kernel_rfl
theorem tZ45 : tZ Try.prog 45 = some [.nilFunc] := by kernel_rfl
theorem tS46 : tS Try.prog 46 = some 1 := by kernel_rfl
theorem tA46 : tA Try.prog 46 = some false := by kernel_rfl
theorem tB46 : tB Try.prog 46 = some 8 := by kernel_rfl
theorem tZ46 : tZ Try.prog 46 = some [.nilFunc] := by kernel_rfl
theorem tS47 : tS Try.prog 47 = some 1 := by kernel_rfl
theorem tA47 : tA Try.prog 47 = some false := by kernel_rfl
theorem tB47 : tB Try.prog 47 = some 24 := by kernel_rfl
theorem tZ47 : tZ Try.prog 47 = some [.slice none 0 0] := by kernel_rfl
theorem tE47 : tE Try.prog 47 = some 2 := by kernel_rfl
theorem tR47 : tR Try.prog 47 = none := by kernel_rfl
theorem tU47 : Try.prog.underlying 47 = some (.slice 2) := by kernel_rfl
theorem tS48 : tS Try.prog 48 = some 1 := by kernel_rfl
theorem tA48 : tA Try.prog 48 = some false := by kernel_rfl
theorem tB48 : tB Try.prog 48 = some 8 := by kernel_rfl
theorem tZ48 : tZ Try.prog 48 = some [.nilFunc] := by kernel_rfl
theorem tS49 : tS Try.prog 49 = some 1 := by kernel_rfl
theorem tA49 : tA Try.prog 49 = some false := by kernel_rfl
theorem tB49 : tB Try.prog 49 = some 8 := by kernel_rfl
theorem tZ49 : tZ Try.prog 49 = some [.nilFunc] := by kernel_rfl
theorem tS50 : tS Try.prog 50 = some 1 := by kernel_rfl
theorem tA50 : tA Try.prog 50 = some false := by kernel_rfl
theorem tB50 : tB Try.prog 50 = some 8 := by kernel_rfl
theorem tZ50 : tZ Try.prog 50 = some [.nilFunc] := by kernel_rfl
theorem tS51 : tS Try.prog 51 = some 1 := by kernel_rfl
theorem tA51 : tA Try.prog 51 = some false := by kernel_rfl
theorem tB51 : tB Try.prog 51 = some 8 := by kernel_rfl
theorem tZ51 : tZ Try.prog 51 = some [.nilFunc] := by kernel_rfl
theorem tS52 : tS Try.prog 52 = some 1 := by kernel_rfl
theorem tA52 : tA Try.prog 52 = some false := by kernel_rfl
theorem tB52 : tB Try.prog 52 = some 8 := by kernel_rfl
theorem tZ52 : tZ Try.prog 52 = some [.map none] := by kernel_rfl
theorem tU52 : Try.prog.underlying 52 = some (.map 53 4) := by kernel_rfl
theorem tS53 : tS Try.prog 53 = some 2 := by kernel_rfl
theorem tA53 : tA Try.prog 53 = some true := by kernel_rfl
theorem tB53 : tB Try.prog 53 = some 16 := by kernel_rfl
theorem tZ53 : tZ Try.prog 53 = some [.int .i64 0, .int .i64 0] := by kernel_rfl
theorem tR53 : tR Try.prog 53 = some (2, 3) := by kernel_rfl
theorem tE53 : tE Try.prog 53 = none := by kernel_rfl
theorem tP53 : tP Try.prog 53 = none := by kernel_rfl
theorem tS54 : tS Try.prog 54 = some 1 := by kernel_rfl
theorem tA54 : tA Try.prog 54 = some false := by kernel_rfl
theorem tB54 : tB Try.prog 54 = some 8 := by kernel_rfl
theorem tZ54 : tZ Try.prog 54 = some [.nilFunc] := by kernel_rfl
theorem tS55 : tS Try.prog 55 = some 1 := by kernel_rfl
theorem tA55 : tA Try.prog 55 = some false := by kernel_rfl
theorem tB55 : tB Try.prog 55 = some 8 := by kernel_rfl
theorem tZ55 : tZ Try.prog 55 = some [.pointer none] := by kernel_rfl
theorem tS56 : tS Try.prog 56 = some 1 := by kernel_rfl
theorem tA56 : tA Try.prog 56 = some false := by kernel_rfl
theorem tB56 : tB Try.prog 56 = some 8 := by kernel_rfl
theorem tZ56 : tZ Try.prog 56 = some [.pointer none] := by kernel_rfl
theorem tS57 : tS Try.prog 57 = some 1 := by kernel_rfl
theorem tA57 : tA Try.prog 57 = some false := by kernel_rfl
theorem tB57 : tB Try.prog 57 = some 8 := by kernel_rfl
theorem tZ57 : tZ Try.prog 57 = some [.nilFunc] := by kernel_rfl
theorem tS58 : tS Try.prog 58 = some 2 := by kernel_rfl
theorem tA58 : tA Try.prog 58 = some true := by kernel_rfl
theorem tB58 : tB Try.prog 58 = some 16 := by kernel_rfl
theorem tZ58 : tZ Try.prog 58 = some [.pointer none, .int .i64 0] := by kernel_rfl
theorem tF58_0 : tF Try.prog 58 0 = some (0, 56) := by kernel_rfl
theorem tF58_1 : tF Try.prog 58 1 = some (1, 25) := by kernel_rfl
theorem tP58 : tP Try.prog 58 = some [(0, 1), (1, 1)] := by kernel_rfl
theorem tS59 : tS Try.prog 59 = some 2 := by kernel_rfl
theorem tA59 : tA Try.prog 59 = some true := by kernel_rfl
theorem tB59 : tB Try.prog 59 = some 16 := by kernel_rfl
theorem tZ59 : tZ Try.prog 59 = some [.pointer none, .int .i64 0] := by kernel_rfl
theorem tF59_0 : tF Try.prog 59 0 = some (0, 56) := by kernel_rfl
theorem tF59_1 : tF Try.prog 59 1 = some (1, 25) := by kernel_rfl
theorem tP59 : tP Try.prog 59 = some [(0, 1), (1, 1)] := by kernel_rfl
theorem tS60 : tS Try.prog 60 = some 1 := by kernel_rfl
theorem tA60 : tA Try.prog 60 = some false := by kernel_rfl
theorem tB60 : tB Try.prog 60 = some 8 := by kernel_rfl
theorem tZ60 : tZ Try.prog 60 = some [.nilFunc] := by kernel_rfl
theorem tS61 : tS Try.prog 61 = some 1 := by kernel_rfl
theorem tA61 : tA Try.prog 61 = some false := by kernel_rfl
theorem tB61 : tB Try.prog 61 = some 8 := by kernel_rfl
theorem tZ61 : tZ Try.prog 61 = some [.nilFunc] := by kernel_rfl
theorem tS62 : tS Try.prog 62 = some 1 := by kernel_rfl
theorem tA62 : tA Try.prog 62 = some false := by kernel_rfl
theorem tB62 : tB Try.prog 62 = some 8 := by kernel_rfl
theorem tZ62 : tZ Try.prog 62 = some [.nilFunc] := by kernel_rfl
theorem tS63 : tS Try.prog 63 = some 1 := by kernel_rfl
theorem tA63 : tA Try.prog 63 = some false := by kernel_rfl
theorem tB63 : tB Try.prog 63 = some 8 := by kernel_rfl
theorem tZ63 : tZ Try.prog 63 = some [.map none] := by kernel_rfl
theorem tU63 : Try.prog.underlying 63 = some (.map 3 62) := by kernel_rfl
theorem tS65 : tS Try.prog 65 = some 1 := by kernel_rfl
theorem tA65 : tA Try.prog 65 = some false := by kernel_rfl
theorem tB65 : tB Try.prog 65 = some 8 := by kernel_rfl
theorem tZ65 : tZ Try.prog 65 = some [.nilFunc] := by kernel_rfl
theorem tS66 : tS Try.prog 66 = some 1 := by kernel_rfl
theorem tA66 : tA Try.prog 66 = some false := by kernel_rfl
theorem tB66 : tB Try.prog 66 = some 8 := by kernel_rfl
theorem tZ66 : tZ Try.prog 66 = some [.nilFunc] := by kernel_rfl
theorem tS67 : tS Try.prog 67 = some 1 := by kernel_rfl
theorem tA67 : tA Try.prog 67 = some false := by kernel_rfl
theorem tB67 : tB Try.prog 67 = some 8 := by kernel_rfl
theorem tZ67 : tZ Try.prog 67 = some [.nilFunc] := by kernel_rfl
theorem tS68 : tS Try.prog 68 = some 1 := by kernel_rfl
theorem tA68 : tA Try.prog 68 = some false := by kernel_rfl
theorem tB68 : tB Try.prog 68 = some 8 := by kernel_rfl
theorem tZ68 : tZ Try.prog 68 = some [.nilFunc] := by kernel_rfl
theorem tS69 : tS Try.prog 69 = some 1 := by kernel_rfl
theorem tA69 : tA Try.prog 69 = some false := by kernel_rfl
theorem tB69 : tB Try.prog 69 = some 8 := by kernel_rfl
theorem tZ69 : tZ Try.prog 69 = some [.nilFunc] := by kernel_rfl
theorem tS70 : tS Try.prog 70 = some 1 := by kernel_rfl
theorem tA70 : tA Try.prog 70 = some false := by kernel_rfl
theorem tB70 : tB Try.prog 70 = some 8 := by kernel_rfl
theorem tZ70 : tZ Try.prog 70 = some [.nilFunc] := by kernel_rfl
theorem tS71 : tS Try.prog 71 = some 1 := by kernel_rfl
theorem tA71 : tA Try.prog 71 = some false := by kernel_rfl
theorem tB71 : tB Try.prog 71 = some 8 := by kernel_rfl
theorem tZ71 : tZ Try.prog 71 = some [.nilFunc] := by kernel_rfl
theorem tS72 : tS Try.prog 72 = some 1 := by kernel_rfl
theorem tA72 : tA Try.prog 72 = some false := by kernel_rfl
theorem tB72 : tB Try.prog 72 = some 8 := by kernel_rfl
theorem tZ72 : tZ Try.prog 72 = some [.nilFunc] := by kernel_rfl
theorem tS73 : tS Try.prog 73 = some 1 := by kernel_rfl
theorem tA73 : tA Try.prog 73 = some false := by kernel_rfl
theorem tB73 : tB Try.prog 73 = some 8 := by kernel_rfl
theorem tZ73 : tZ Try.prog 73 = some [.nilFunc] := by kernel_rfl
theorem tS74 : tS Try.prog 74 = some 2 := by kernel_rfl
theorem tA74 : tA Try.prog 74 = some true := by kernel_rfl
theorem tB74 : tB Try.prog 74 = some 32 := by kernel_rfl
theorem tZ74 : tZ Try.prog 74 = some [.slice none 0 0, .int .i64 0] := by kernel_rfl
theorem tF74_0 : tF Try.prog 74 0 = some (0, 22) := by kernel_rfl
theorem tF74_1 : tF Try.prog 74 1 = some (1, 25) := by kernel_rfl
theorem tP74 : tP Try.prog 74 = some [(0, 1), (1, 1)] := by kernel_rfl
theorem tS75 : tS Try.prog 75 = some 2 := by kernel_rfl
theorem tA75 : tA Try.prog 75 = some true := by kernel_rfl
theorem tB75 : tB Try.prog 75 = some 32 := by kernel_rfl
theorem tZ75 : tZ Try.prog 75 = some [.slice none 0 0, .int .i64 0] := by kernel_rfl
theorem tF75_0 : tF Try.prog 75 0 = some (0, 22) := by kernel_rfl
theorem tF75_1 : tF Try.prog 75 1 = some (1, 25) := by kernel_rfl
theorem tP75 : tP Try.prog 75 = some [(0, 1), (1, 1)] := by kernel_rfl
theorem tS76 : tS Try.prog 76 = some 2 := by kernel_rfl
theorem tA76 : tA Try.prog 76 = some true := by kernel_rfl
theorem tB76 : tB Try.prog 76 = some 32 := by kernel_rfl
theorem tZ76 : tZ Try.prog 76 = some [.slice none 0 0, .int .i64 0] := by kernel_rfl
theorem tF76_0 : tF Try.prog 76 0 = some (0, 75) := by kernel_rfl
theorem tP76 : tP Try.prog 76 = some [(0, 2)] := by kernel_rfl
theorem tS77 : tS Try.prog 77 = some 2 := by kernel_rfl
theorem tA77 : tA Try.prog 77 = some true := by kernel_rfl
theorem tB77 : tB Try.prog 77 = some 32 := by kernel_rfl
theorem tZ77 : tZ Try.prog 77 = some [.slice none 0 0, .int .i64 0] := by kernel_rfl
theorem tF77_0 : tF Try.prog 77 0 = some (0, 75) := by kernel_rfl
theorem tP77 : tP Try.prog 77 = some [(0, 2)] := by kernel_rfl
theorem tS78 : tS Try.prog 78 = some 1 := by kernel_rfl
theorem tA78 : tA Try.prog 78 = some false := by kernel_rfl
theorem tB78 : tB Try.prog 78 = some 8 := by kernel_rfl
theorem tZ78 : tZ Try.prog 78 = some [.nilFunc] := by kernel_rfl
theorem tS79 : tS Try.prog 79 = some 1 := by kernel_rfl
theorem tA79 : tA Try.prog 79 = some false := by kernel_rfl
theorem tB79 : tB Try.prog 79 = some 8 := by kernel_rfl
theorem tZ79 : tZ Try.prog 79 = some [.nilFunc] := by kernel_rfl
theorem tS80 : tS Try.prog 80 = some 1 := by kernel_rfl
theorem tA80 : tA Try.prog 80 = some false := by kernel_rfl
theorem tB80 : tB Try.prog 80 = some 8 := by kernel_rfl
theorem tZ80 : tZ Try.prog 80 = some [.nilFunc] := by kernel_rfl
theorem tS81 : tS Try.prog 81 = some 1 := by kernel_rfl
theorem tA81 : tA Try.prog 81 = some false := by kernel_rfl
theorem tB81 : tB Try.prog 81 = some 8 := by kernel_rfl
theorem tZ81 : tZ Try.prog 81 = some [.nilFunc] := by kernel_rfl
theorem tS82 : tS Try.prog 82 = some 1 := by kernel_rfl
theorem tA82 : tA Try.prog 82 = some false := by kernel_rfl
theorem tB82 : tB Try.prog 82 = some 8 := by kernel_rfl
theorem tZ82 : tZ Try.prog 82 = some [.nilFunc] := by kernel_rfl
theorem tS83 : tS Try.prog 83 = some 1 := by kernel_rfl
theorem tA83 : tA Try.prog 83 = some false := by kernel_rfl
theorem tB83 : tB Try.prog 83 = some 8 := by kernel_rfl
theorem tZ83 : tZ Try.prog 83 = some [.int .u64 0] := by kernel_rfl
theorem tU83 : Try.prog.underlying 83 = some (.int .u64) := by kernel_rfl
theorem tS84 : tS Try.prog 84 = some 1 := by kernel_rfl
theorem tA84 : tA Try.prog 84 = some false := by kernel_rfl
theorem tB84 : tB Try.prog 84 = some 8 := by kernel_rfl
theorem tZ84 : tZ Try.prog 84 = some [.nilFunc] := by kernel_rfl
theorem tS85 : tS Try.prog 85 = some 1 := by kernel_rfl
theorem tA85 : tA Try.prog 85 = some false := by kernel_rfl
theorem tB85 : tB Try.prog 85 = some 8 := by kernel_rfl
theorem tZ85 : tZ Try.prog 85 = some [.nilFunc] := by kernel_rfl
theorem tS86 : tS Try.prog 86 = some 1 := by kernel_rfl
theorem tA86 : tA Try.prog 86 = some false := by kernel_rfl
theorem tB86 : tB Try.prog 86 = some 24 := by kernel_rfl
theorem tZ86 : tZ Try.prog 86 = some [.slice none 0 0] := by kernel_rfl
theorem tE86 : tE Try.prog 86 = some 3 := by kernel_rfl
theorem tR86 : tR Try.prog 86 = none := by kernel_rfl
theorem tU86 : Try.prog.underlying 86 = some (.slice 3) := by kernel_rfl
theorem tS87 : tS Try.prog 87 = some 1 := by kernel_rfl
theorem tA87 : tA Try.prog 87 = some false := by kernel_rfl
theorem tB87 : tB Try.prog 87 = some 8 := by kernel_rfl
theorem tZ87 : tZ Try.prog 87 = some [.nilFunc] := by kernel_rfl
theorem tS88 : tS Try.prog 88 = some 1 := by kernel_rfl
theorem tA88 : tA Try.prog 88 = some false := by kernel_rfl
theorem tB88 : tB Try.prog 88 = some 8 := by kernel_rfl
theorem tZ88 : tZ Try.prog 88 = some [.nilFunc] := by kernel_rfl
theorem tS89 : tS Try.prog 89 = some 1 := by kernel_rfl
theorem tA89 : tA Try.prog 89 = some false := by kernel_rfl
theorem tB89 : tB Try.prog 89 = some 8 := by kernel_rfl
theorem tZ89 : tZ Try.prog 89 = some [.nilFunc] := by kernel_rfl
theorem tS90 : tS Try.prog 90 = some 1 := by kernel_rfl
theorem tA90 : tA Try.prog 90 = some false := by kernel_rfl
theorem tB90 : tB Try.prog 90 = some 8 := by kernel_rfl
theorem tZ90 : tZ Try.prog 90 = some [.pointer none] := by kernel_rfl
theorem tS91 : tS Try.prog 91 = some 1 := by kernel_rfl
theorem tA91 : tA Try.prog 91 = some false := by kernel_rfl
theorem tB91 : tB Try.prog 91 = some 8 := by kernel_rfl
theorem tZ91 : tZ Try.prog 91 = some [.nilFunc] := by kernel_rfl
theorem tS92 : tS Try.prog 92 = some 4 := by kernel_rfl
theorem tA92 : tA Try.prog 92 = some true := by kernel_rfl
theorem tB92 : tB Try.prog 92 = some 40 := by kernel_rfl
theorem tZ92 : tZ Try.prog 92 = some [.pointer none, .pointer none, .pointer none, .string ⟨#[]⟩] := by kernel_rfl
theorem tF92_0 : tF Try.prog 92 0 = some (0, 17) := by kernel_rfl
theorem tF92_1 : tF Try.prog 92 1 = some (1, 17) := by kernel_rfl
theorem tF92_2 : tF Try.prog 92 2 = some (2, 17) := by kernel_rfl
theorem tF92_3 : tF Try.prog 92 3 = some (3, 9) := by kernel_rfl
theorem tP92 : tP Try.prog 92 = some [(0, 1), (1, 1), (2, 1), (3, 1)] := by kernel_rfl
theorem tS94 : tS Try.prog 94 = some 0 := by kernel_rfl
theorem tA94 : tA Try.prog 94 = some true := by kernel_rfl
theorem tB94 : tB Try.prog 94 = some 0 := by kernel_rfl
theorem tZ94 : tZ Try.prog 94 = some [] := by kernel_rfl
theorem tR94 : tR Try.prog 94 = some (0, 16) := by kernel_rfl
theorem tE94 : tE Try.prog 94 = none := by kernel_rfl
theorem tP94 : tP Try.prog 94 = none := by kernel_rfl
theorem tS95 : tS Try.prog 95 = some 0 := by kernel_rfl
theorem tA95 : tA Try.prog 95 = some true := by kernel_rfl
theorem tB95 : tB Try.prog 95 = some 0 := by kernel_rfl
theorem tZ95 : tZ Try.prog 95 = some [] := by kernel_rfl
theorem tF95_0 : tF Try.prog 95 0 = some (0, 94) := by kernel_rfl
theorem tP95 : tP Try.prog 95 = some [(0, 0)] := by kernel_rfl
theorem tS97 : tS Try.prog 97 = some 1 := by kernel_rfl
theorem tA97 : tA Try.prog 97 = some false := by kernel_rfl
theorem tB97 : tB Try.prog 97 = some 4 := by kernel_rfl
theorem tZ97 : tZ Try.prog 97 = some [.int .u32 0] := by kernel_rfl
theorem tU97 : Try.prog.underlying 97 = some (.int .u32) := by kernel_rfl
theorem tS98 : tS Try.prog 98 = some 1 := by kernel_rfl
theorem tA98 : tA Try.prog 98 = some false := by kernel_rfl
theorem tB98 : tB Try.prog 98 = some 1 := by kernel_rfl
theorem tZ98 : tZ Try.prog 98 = some [.int .u8 0] := by kernel_rfl
theorem tU98 : Try.prog.underlying 98 = some (.int .u8) := by kernel_rfl
theorem tS99 : tS Try.prog 99 = some 1 := by kernel_rfl
theorem tA99 : tA Try.prog 99 = some false := by kernel_rfl
theorem tB99 : tB Try.prog 99 = some 1 := by kernel_rfl
theorem tZ99 : tZ Try.prog 99 = some [.int .u8 0] := by kernel_rfl
theorem tU99 : Try.prog.underlying 99 = some (.int .u8) := by kernel_rfl
theorem tS100 : tS Try.prog 100 = some 1 := by kernel_rfl
theorem tA100 : tA Try.prog 100 = some false := by kernel_rfl
theorem tB100 : tB Try.prog 100 = some 8 := by kernel_rfl
theorem tZ100 : tZ Try.prog 100 = some [.nilFunc] := by kernel_rfl
theorem tS101 : tS Try.prog 101 = some 1 := by kernel_rfl
theorem tA101 : tA Try.prog 101 = some false := by kernel_rfl
theorem tB101 : tB Try.prog 101 = some 8 := by kernel_rfl
theorem tZ101 : tZ Try.prog 101 = some [.pointer none] := by kernel_rfl
theorem tS102 : tS Try.prog 102 = some 1 := by kernel_rfl
theorem tA102 : tA Try.prog 102 = some false := by kernel_rfl
theorem tB102 : tB Try.prog 102 = some 4 := by kernel_rfl
theorem tZ102 : tZ Try.prog 102 = some [.int .i32 0] := by kernel_rfl
theorem tU102 : Try.prog.underlying 102 = some (.int .i32) := by kernel_rfl
theorem tS103 : tS Try.prog 103 = some 1 := by kernel_rfl
theorem tA103 : tA Try.prog 103 = some false := by kernel_rfl
theorem tB103 : tB Try.prog 103 = some 4 := by kernel_rfl
theorem tZ103 : tZ Try.prog 103 = some [.int .i32 0] := by kernel_rfl
theorem tU103 : Try.prog.underlying 103 = some (.int .i32) := by kernel_rfl
theorem tS104 : tS Try.prog 104 = some 11 := by kernel_rfl
theorem tA104 : tA Try.prog 104 = some true := by kernel_rfl
theorem tB104 : tB Try.prog 104 = some 48 := by kernel_rfl
theorem tZ104 : tZ Try.prog 104 = some [.int .u64 0, .int .u64 0, .int .u32 0, .int .u8 0, .int .u8 0, .int .u8 0, .int .u8 0, .nilFunc, .pointer none, .int .i32 0, .int .i32 0] := by kernel_rfl
theorem tF104_0 : tF Try.prog 104 0 = some (0, 12) := by kernel_rfl
theorem tF104_1 : tF Try.prog 104 1 = some (1, 12) := by kernel_rfl
theorem tF104_2 : tF Try.prog 104 2 = some (2, 97) := by kernel_rfl
theorem tF104_3 : tF Try.prog 104 3 = some (3, 98) := by kernel_rfl
theorem tF104_4 : tF Try.prog 104 4 = some (4, 5) := by kernel_rfl
theorem tF104_5 : tF Try.prog 104 5 = some (5, 5) := by kernel_rfl
theorem tF104_6 : tF Try.prog 104 6 = some (6, 99) := by kernel_rfl
theorem tF104_7 : tF Try.prog 104 7 = some (7, 100) := by kernel_rfl
theorem tF104_8 : tF Try.prog 104 8 = some (8, 101) := by kernel_rfl
theorem tF104_9 : tF Try.prog 104 9 = some (9, 102) := by kernel_rfl
theorem tF104_10 : tF Try.prog 104 10 = some (10, 103) := by kernel_rfl
theorem tP104 : tP Try.prog 104 = some [(0, 1), (1, 1), (2, 1), (3, 1), (4, 1), (5, 1), (6, 1), (7, 1), (8, 1), (9, 1), (10, 1)] := by kernel_rfl
theorem tS105 : tS Try.prog 105 = some 11 := by kernel_rfl
theorem tA105 : tA Try.prog 105 = some true := by kernel_rfl
theorem tB105 : tB Try.prog 105 = some 48 := by kernel_rfl
theorem tZ105 : tZ Try.prog 105 = some [.int .u64 0, .int .u64 0, .int .u32 0, .int .u8 0, .int .u8 0, .int .u8 0, .int .u8 0, .nilFunc, .pointer none, .int .i32 0, .int .i32 0] := by kernel_rfl
theorem tF105_0 : tF Try.prog 105 0 = some (0, 12) := by kernel_rfl
theorem tF105_1 : tF Try.prog 105 1 = some (1, 12) := by kernel_rfl
theorem tF105_2 : tF Try.prog 105 2 = some (2, 97) := by kernel_rfl
theorem tF105_3 : tF Try.prog 105 3 = some (3, 98) := by kernel_rfl
theorem tF105_4 : tF Try.prog 105 4 = some (4, 5) := by kernel_rfl
theorem tF105_5 : tF Try.prog 105 5 = some (5, 5) := by kernel_rfl
theorem tF105_6 : tF Try.prog 105 6 = some (6, 99) := by kernel_rfl
theorem tF105_7 : tF Try.prog 105 7 = some (7, 100) := by kernel_rfl
theorem tF105_8 : tF Try.prog 105 8 = some (8, 101) := by kernel_rfl
theorem tF105_9 : tF Try.prog 105 9 = some (9, 102) := by kernel_rfl
theorem tF105_10 : tF Try.prog 105 10 = some (10, 103) := by kernel_rfl
theorem tP105 : tP Try.prog 105 = some [(0, 1), (1, 1), (2, 1), (3, 1), (4, 1), (5, 1), (6, 1), (7, 1), (8, 1), (9, 1), (10, 1)] := by kernel_rfl
theorem tS106 : tS Try.prog 106 = some 1 := by kernel_rfl
theorem tA106 : tA Try.prog 106 = some false := by kernel_rfl
theorem tB106 : tB Try.prog 106 = some 8 := by kernel_rfl
theorem tZ106 : tZ Try.prog 106 = some [.pointer none] := by kernel_rfl
set_option maxHeartbeats 1000000 in
theorem eqT34 (a0 b0 a1 b1 a2 b2 : Int) (w : World) : (Op.equalIn 10000 34 (.agg #[.int .i64 a0, .int .i64 a1, .int .i64 a2]) (.agg #[.int .i64 b0, .int .i64 b1, .int .i64 b2])).run Try.prog w = .ok ((decide (a0 = b0) && (decide (a1 = b1) && decide (a2 = b2)))) w := by
  simp [go_sem, Try.underlying2, Try.underlying3, Try.underlying34]
  (repeat' split) <;> simp_all
set_option maxHeartbeats 1000000 in
theorem eqT37 (a0 b0 a1 b1 a2 b2 a3 b3 a4 b4 : Int) (w : World) : (Op.equalIn 10000 37 (.agg #[.int .i64 a0, .int .i64 a1, .int .i64 a2, .int .i64 a3, .int .u64 a4]) (.agg #[.int .i64 b0, .int .i64 b1, .int .i64 b2, .int .i64 b3, .int .u64 b4])).run Try.prog w = .ok ((decide (a0 = b0) && (decide (a1 = b1) && (decide (a2 = b2) && (decide (a3 = b3) && decide (a4 = b4)))))) w := by
  simp [go_sem, Try.underlying2, Try.underlying3, Try.underlying34, Try.underlying35, Try.underlying37]
  (repeat' split) <;> simp_all
def eqTab : TypeId → List Value → List Value → Option Bool
  | 34, [.int .i64 a0, .int .i64 a1, .int .i64 a2], [.int .i64 b0, .int .i64 b1, .int .i64 b2] => some ((decide (a0 = b0) && (decide (a1 = b1) && decide (a2 = b2))))
  | 37, [.int .i64 a0, .int .i64 a1, .int .i64 a2, .int .i64 a3, .int .u64 a4], [.int .i64 b0, .int .i64 b1, .int .i64 b2, .int .i64 b3, .int .u64 b4] => some ((decide (a0 = b0) && (decide (a1 = b1) && (decide (a2 = b2) && (decide (a3 = b3) && decide (a4 = b4))))))
  | 53, us, vs => match intsOf .i64 us, intsOf .i64 vs with | some xs, some ys => if xs.length = 2 ∧ ys.length = 2 then some (decide (xs = ys)) else none | _, _ => none
  | _, _, _ => none
theorem eqTab_ok : ∀ t us vs b, eqTab t us vs = some b → Try.prog.eqGuardType Try.prog.depth t = false ∧ ∀ w : World, (Op.equalIn 10000 t (.agg us.toArray) (.agg vs.toArray)).run Try.prog w = .ok b w := by
  intro t us vs b h
  unfold eqTab at h
  split at h
  · cases h; exact ⟨by kernel_rfl, fun w => eqT34 _ _ _ _ _ _ w⟩
  · cases h; exact ⟨by kernel_rfl, fun w => eqT37 _ _ _ _ _ _ _ _ _ _ w⟩
  · split at h
    · rename_i xs ys hx hy
      split at h
      · rename_i hl
        cases h
        rw [intsOf_eq hx, intsOf_eq hy]
        exact ⟨by kernel_rfl, fun w => run_eq_ints w 9998 (t := 53) (e := 3) (by kernel_rfl) (by kernel_rfl) (by kernel_rfl) xs ys hl.1 hl.2⟩
      · cases h
    · cases h
  · cases h
theorem mixed : Try.prog.follows .mixedOrders = true := by kernel_rfl
/-- what is known of the program at the outset -/
def E0 : Env Try.prog := ⟨eqTab, eqTab_ok, fun _ _ => none, by simp⟩
def cl0 : FuncId → List AV → Option AV := fun _ _ => none
attribute [push_cast] tS1 tA1 tB1 tZ1 tS2 tA2 tB2 tZ2 tU2 tS3 tA3 tB3 tZ3 tU3 tS4 tA4 tB4 tZ4 tU4 tS5 tA5 tB5 tZ5 tU5 tS6 tA6 tB6 tZ6 tU6 tS7 tA7 tB7 tZ7 tF7_0 tF7_1 tF7_2 tF7_3 tP7 tS9 tA9 tB9 tZ9 tU9 tS12 tA12 tB12 tZ12 tU12 tS13 tA13 tB13 tZ13 tF13_0 tF13_1 tP13 tS15 tA15 tB15 tZ15 tS16 tA16 tB16 tZ16 tS17 tA17 tB17 tZ17 tS18 tA18 tB18 tZ18 tF18_0 tP18 tS19 tA19 tB19 tZ19 tF19_0 tP19 tS21 tA21 tB21 tZ21 tU21 tS22 tA22 tB22 tZ22 tE22 tR22 tU22 tS23 tA23 tB23 tZ23 tS24 tA24 tB24 tZ24 tE24 tR24 tU24 tS25 tA25 tB25 tZ25 tU25 tS27 tA27 tB27 tZ27 tS28 tA28 tB28 tZ28 tS29 tA29 tB29 tZ29 tS31 tA31 tB31 tZ31 tS32 tA32 tB32 tZ32 tS33 tA33 tB33 tZ33 tF33_0 tF33_1 tF33_2 tP33 tS34 tA34 tB34 tZ34 tF34_0 tF34_1 tF34_2 tP34 tS35 tA35 tB35 tZ35 tU35 tS36 tA36 tB36 tZ36 tF36_0 tF36_1 tF36_2 tP36 tS37 tA37 tB37 tZ37 tF37_0 tF37_1 tF37_2 tP37 tS38 tA38 tB38 tZ38 tS39 tA39 tB39 tZ39 tS40 tA40 tB40 tZ40 tS41 tA41 tB41 tZ41 tS42 tA42 tB42 tZ42 tS43 tA43 tB43 tZ43 tS44 tA44 tB44 tZ44 tS45 tA45 tB45 tZ45 tS46 tA46 tB46 tZ46 tS47 tA47 tB47 tZ47 tE47 tR47 tU47 tS48 tA48 tB48 tZ48 tS49 tA49 tB49 tZ49 tS50 tA50 tB50 tZ50 tS51 tA51 tB51 tZ51 tS52 tA52 tB52 tZ52 tU52 tS53 tA53 tB53 tZ53 tR53 tE53 tP53 tS54 tA54 tB54 tZ54 tS55 tA55 tB55 tZ55 tS56 tA56 tB56 tZ56 tS57 tA57 tB57 tZ57 tS58 tA58 tB58 tZ58 tF58_0 tF58_1 tP58 tS59 tA59 tB59 tZ59 tF59_0 tF59_1 tP59 tS60 tA60 tB60 tZ60 tS61 tA61 tB61 tZ61 tS62 tA62 tB62 tZ62 tS63 tA63 tB63 tZ63 tU63 tS65 tA65 tB65 tZ65 tS66 tA66 tB66 tZ66 tS67 tA67 tB67 tZ67 tS68 tA68 tB68 tZ68 tS69 tA69 tB69 tZ69 tS70 tA70 tB70 tZ70 tS71 tA71 tB71 tZ71 tS72 tA72 tB72 tZ72 tS73 tA73 tB73 tZ73 tS74 tA74 tB74 tZ74 tF74_0 tF74_1 tP74 tS75 tA75 tB75 tZ75 tF75_0 tF75_1 tP75 tS76 tA76 tB76 tZ76 tF76_0 tP76 tS77 tA77 tB77 tZ77 tF77_0 tP77 tS78 tA78 tB78 tZ78 tS79 tA79 tB79 tZ79 tS80 tA80 tB80 tZ80 tS81 tA81 tB81 tZ81 tS82 tA82 tB82 tZ82 tS83 tA83 tB83 tZ83 tU83 tS84 tA84 tB84 tZ84 tS85 tA85 tB85 tZ85 tS86 tA86 tB86 tZ86 tE86 tR86 tU86 tS87 tA87 tB87 tZ87 tS88 tA88 tB88 tZ88 tS89 tA89 tB89 tZ89 tS90 tA90 tB90 tZ90 tS91 tA91 tB91 tZ91 tS92 tA92 tB92 tZ92 tF92_0 tF92_1 tF92_2 tF92_3 tP92 tS94 tA94 tB94 tZ94 tR94 tE94 tP94 tS95 tA95 tB95 tZ95 tF95_0 tP95 tS97 tA97 tB97 tZ97 tU97 tS98 tA98 tB98 tZ98 tU98 tS99 tA99 tB99 tZ99 tU99 tS100 tA100 tB100 tZ100 tS101 tA101 tB101 tZ101 tS102 tA102 tB102 tZ102 tU102 tS103 tA103 tB103 tZ103 tU103 tS104 tA104 tB104 tZ104 tF104_0 tF104_1 tF104_2 tF104_3 tF104_4 tF104_5 tF104_6 tF104_7 tF104_8 tF104_9 tF104_10 tP104 tS105 tA105 tB105 tZ105 tF105_0 tF105_1 tF105_2 tF105_3 tF105_4 tF105_5 tF105_6 tF105_7 tF105_8 tF105_9 tF105_10 tP105 tS106 tA106 tB106 tZ106 eqTab
theorem E0_cl : E0.cl = cl0 := rfl
theorem E0_eq : E0.eq = eqTab := rfl
attribute [push_cast] E0_cl E0_eq cl0
end Go.Proofs.Ytfdedgeljijfdaa
