/-
  Facts on the types of the program: how many cells each has, and its zero value. Printed by a program (mkfacts). Conditions: none.
-/
import Derived.Test.YtogbbbgmhobfiaaProg
import Derived.Test.YtogbbbgmhobfiaaMw2
import Derived.Test.YtogbbbgmhobfiaaSww2
import Derived.KernelRfl
set_option maxRecDepth 100000
namespace Go.Proofs.Ytogbbbgmhobfiaa
open Go Go.Sx

theorem hmx : Try.prog.follows .mixedOrders = true := by kernel_rfl
@[simp] theorem cellsOf0 : Try.prog.cellsOf 0 = 1 := by kernel_rfl
@[simp] theorem cellsOf1 : Try.prog.cellsOf 1 = 1 := by kernel_rfl
@[simp] theorem cellsOf2 : Try.prog.cellsOf 2 = 1 := by kernel_rfl
@[simp] theorem cellsOf3 : Try.prog.cellsOf 3 = 1 := by kernel_rfl
@[simp] theorem cellsOf4 : Try.prog.cellsOf 4 = 1 := by kernel_rfl
@[simp] theorem cellsOf5 : Try.prog.cellsOf 5 = 1 := by kernel_rfl
@[simp] theorem cellsOf6 : Try.prog.cellsOf 6 = 1 := by kernel_rfl
@[simp] theorem cellsOf7 : Try.prog.cellsOf 7 = 4 := by kernel_rfl
@[simp] theorem cellsOf8 : Try.prog.cellsOf 8 = 4 := by kernel_rfl
@[simp] theorem cellsOf9 : Try.prog.cellsOf 9 = 1 := by kernel_rfl
@[simp] theorem cellsOf10 : Try.prog.cellsOf 10 = 1 := by kernel_rfl
@[simp] theorem cellsOf11 : Try.prog.cellsOf 11 = 1 := by kernel_rfl
@[simp] theorem cellsOf12 : Try.prog.cellsOf 12 = 1 := by kernel_rfl
@[simp] theorem cellsOf13 : Try.prog.cellsOf 13 = 2 := by kernel_rfl
@[simp] theorem cellsOf14 : Try.prog.cellsOf 14 = 2 := by kernel_rfl
@[simp] theorem cellsOf15 : Try.prog.cellsOf 15 = 1 := by kernel_rfl
@[simp] theorem cellsOf16 : Try.prog.cellsOf 16 = 1 := by kernel_rfl
@[simp] theorem cellsOf17 : Try.prog.cellsOf 17 = 1 := by kernel_rfl
@[simp] theorem cellsOf18 : Try.prog.cellsOf 18 = 1 := by kernel_rfl
@[simp] theorem cellsOf19 : Try.prog.cellsOf 19 = 1 := by kernel_rfl
@[simp] theorem cellsOf20 : Try.prog.cellsOf 20 = 1 := by kernel_rfl
@[simp] theorem cellsOf21 : Try.prog.cellsOf 21 = 1 := by kernel_rfl
@[simp] theorem cellsOf22 : Try.prog.cellsOf 22 = 1 := by kernel_rfl
@[simp] theorem cellsOf23 : Try.prog.cellsOf 23 = 1 := by kernel_rfl
@[simp] theorem cellsOf24 : Try.prog.cellsOf 24 = 1 := by kernel_rfl
@[simp] theorem cellsOf25 : Try.prog.cellsOf 25 = 2 := by kernel_rfl
@[simp] theorem cellsOf26 : Try.prog.cellsOf 26 = 2 := by kernel_rfl
@[simp] theorem cellsOf27 : Try.prog.cellsOf 27 = 1 := by kernel_rfl
@[simp] theorem cellsOf28 : Try.prog.cellsOf 28 = 1 := by kernel_rfl
@[simp] theorem cellsOf29 : Try.prog.cellsOf 29 = 1 := by kernel_rfl
@[simp] theorem cellsOf30 : Try.prog.cellsOf 30 = 1 := by kernel_rfl
@[simp] theorem cellsOf31 : Try.prog.cellsOf 31 = 2 := by kernel_rfl
@[simp] theorem cellsOf32 : Try.prog.cellsOf 32 = 2 := by kernel_rfl
@[simp] theorem cellsOf33 : Try.prog.cellsOf 33 = 1 := by kernel_rfl
@[simp] theorem cellsOf34 : Try.prog.cellsOf 34 = 2 := by kernel_rfl
@[simp] theorem cellsOf35 : Try.prog.cellsOf 35 = 2 := by kernel_rfl
@[simp] theorem cellsOf36 : Try.prog.cellsOf 36 = 3 := by kernel_rfl
@[simp] theorem cellsOf37 : Try.prog.cellsOf 37 = 3 := by kernel_rfl
@[simp] theorem cellsOf38 : Try.prog.cellsOf 38 = 1 := by kernel_rfl
@[simp] theorem cellsOf39 : Try.prog.cellsOf 39 = 1 := by kernel_rfl
@[simp] theorem cellsOf40 : Try.prog.cellsOf 40 = 4 := by kernel_rfl
@[simp] theorem cellsOf41 : Try.prog.cellsOf 41 = 4 := by kernel_rfl
@[simp] theorem cellsOf42 : Try.prog.cellsOf 42 = 1 := by kernel_rfl
@[simp] theorem cellsOf43 : Try.prog.cellsOf 43 = 1 := by kernel_rfl
@[simp] theorem cellsOf44 : Try.prog.cellsOf 44 = 1 := by kernel_rfl
@[simp] theorem cellsOf45 : Try.prog.cellsOf 45 = 1 := by kernel_rfl
@[simp] theorem cellsOf46 : Try.prog.cellsOf 46 = 1 := by kernel_rfl
@[simp] theorem cellsOf47 : Try.prog.cellsOf 47 = 1 := by kernel_rfl
@[simp] theorem cellsOf48 : Try.prog.cellsOf 48 = 1 := by kernel_rfl
@[simp] theorem cellsOf49 : Try.prog.cellsOf 49 = 1 := by kernel_rfl
@[simp] theorem cellsOf50 : Try.prog.cellsOf 50 = 1 := by kernel_rfl
@[simp] theorem cellsOf51 : Try.prog.cellsOf 51 = 1 := by kernel_rfl
@[simp] theorem cellsOf52 : Try.prog.cellsOf 52 = 1 := by kernel_rfl
@[simp] theorem cellsOf53 : Try.prog.cellsOf 53 = 1 := by kernel_rfl
@[simp] theorem cellsOf54 : Try.prog.cellsOf 54 = 2 := by kernel_rfl
@[simp] theorem cellsOf55 : Try.prog.cellsOf 55 = 2 := by kernel_rfl
@[simp] theorem cellsOf56 : Try.prog.cellsOf 56 = 1 := by kernel_rfl
@[simp] theorem cellsOf57 : Try.prog.cellsOf 57 = 1 := by kernel_rfl
@[simp] theorem cellsOf58 : Try.prog.cellsOf 58 = 1 := by kernel_rfl
@[simp] theorem cellsOf59 : Try.prog.cellsOf 59 = 1 := by kernel_rfl
@[simp] theorem cellsOf60 : Try.prog.cellsOf 60 = 1 := by kernel_rfl
@[simp] theorem cellsOf61 : Try.prog.cellsOf 61 = 6 := by kernel_rfl
@[simp] theorem cellsOf62 : Try.prog.cellsOf 62 = 6 := by kernel_rfl
@[simp] theorem cellsOf63 : Try.prog.cellsOf 63 = 1 := by kernel_rfl
@[simp] theorem cellsOf64 : Try.prog.cellsOf 64 = 1 := by kernel_rfl
@[simp] theorem cellsOf65 : Try.prog.cellsOf 65 = 1 := by kernel_rfl
@[simp] theorem cellsOf66 : Try.prog.cellsOf 66 = 3 := by kernel_rfl
@[simp] theorem cellsOf67 : Try.prog.cellsOf 67 = 3 := by kernel_rfl
@[simp] theorem cellsOf68 : Try.prog.cellsOf 68 = 1 := by kernel_rfl
@[simp] theorem cellsOf69 : Try.prog.cellsOf 69 = 1 := by kernel_rfl
@[simp] theorem cellsOf70 : Try.prog.cellsOf 70 = 1 := by kernel_rfl
@[simp] theorem cellsOf71 : Try.prog.cellsOf 71 = 1 := by kernel_rfl
@[simp] theorem cellsOf72 : Try.prog.cellsOf 72 = 1 := by kernel_rfl
@[simp] theorem cellsOf73 : Try.prog.cellsOf 73 = 1 := by kernel_rfl
@[simp] theorem cellsOf74 : Try.prog.cellsOf 74 = 1 := by kernel_rfl
@[simp] theorem cellsOf75 : Try.prog.cellsOf 75 = 1 := by kernel_rfl
@[simp] theorem cellsOf76 : Try.prog.cellsOf 76 = 1 := by kernel_rfl
@[simp] theorem cellsOf77 : Try.prog.cellsOf 77 = 1 := by kernel_rfl
@[simp] theorem cellsOf78 : Try.prog.cellsOf 78 = 10 := by kernel_rfl
@[simp] theorem cellsOf79 : Try.prog.cellsOf 79 = 17 := by kernel_rfl
@[simp] theorem cellsOf80 : Try.prog.cellsOf 80 = 1 := by kernel_rfl
@[simp] theorem cellsOf81 : Try.prog.cellsOf 81 = 1 := by kernel_rfl
@[simp] theorem cellsOf82 : Try.prog.cellsOf 82 = 4 := by kernel_rfl
@[simp] theorem cellsOf83 : Try.prog.cellsOf 83 = 4 := by kernel_rfl
@[simp] theorem cellsOf84 : Try.prog.cellsOf 84 = 0 := by kernel_rfl
@[simp] theorem cellsOf85 : Try.prog.cellsOf 85 = 0 := by kernel_rfl
@[simp] theorem cellsOf86 : Try.prog.cellsOf 86 = 0 := by kernel_rfl
@[simp] theorem cellsOf87 : Try.prog.cellsOf 87 = 1 := by kernel_rfl
@[simp] theorem cellsOf88 : Try.prog.cellsOf 88 = 1 := by kernel_rfl
@[simp] theorem cellsOf89 : Try.prog.cellsOf 89 = 1 := by kernel_rfl
@[simp] theorem cellsOf90 : Try.prog.cellsOf 90 = 1 := by kernel_rfl
@[simp] theorem cellsOf91 : Try.prog.cellsOf 91 = 1 := by kernel_rfl
@[simp] theorem cellsOf92 : Try.prog.cellsOf 92 = 1 := by kernel_rfl
@[simp] theorem cellsOf93 : Try.prog.cellsOf 93 = 1 := by kernel_rfl
@[simp] theorem cellsOf94 : Try.prog.cellsOf 94 = 1 := by kernel_rfl
@[simp] theorem cellsOf95 : Try.prog.cellsOf 95 = 11 := by kernel_rfl
@[simp] theorem cellsOf96 : Try.prog.cellsOf 96 = 11 := by kernel_rfl
@[simp] theorem cellsOf97 : Try.prog.cellsOf 97 = 1 := by kernel_rfl
@[simp] theorem cellsOf98 : Try.prog.cellsOf 98 = 1 := by kernel_rfl
@[simp] theorem cellsOf99 : Try.prog.cellsOf 99 = 1 := by kernel_rfl
@[simp] theorem cellsOf100 : Try.prog.cellsOf 100 = 1 := by kernel_rfl
@[simp] theorem bytesOf0 : bytesOf Try.prog 0 = 0 := by kernel_rfl
@[simp] theorem bytesOf1 : bytesOf Try.prog 1 = 8 := by kernel_rfl
@[simp] theorem bytesOf2 : bytesOf Try.prog 2 = 8 := by kernel_rfl
@[simp] theorem bytesOf3 : bytesOf Try.prog 3 = 8 := by kernel_rfl
@[simp] theorem bytesOf4 : bytesOf Try.prog 4 = 1 := by kernel_rfl
@[simp] theorem bytesOf5 : bytesOf Try.prog 5 = 1 := by kernel_rfl
@[simp] theorem bytesOf6 : bytesOf Try.prog 6 = 1 := by kernel_rfl
@[simp] theorem bytesOf7 : bytesOf Try.prog 7 = 24 := by kernel_rfl
@[simp] theorem bytesOf8 : bytesOf Try.prog 8 = 24 := by kernel_rfl
@[simp] theorem bytesOf9 : bytesOf Try.prog 9 = 16 := by kernel_rfl
@[simp] theorem bytesOf10 : bytesOf Try.prog 10 = 16 := by kernel_rfl
@[simp] theorem bytesOf11 : bytesOf Try.prog 11 = 16 := by kernel_rfl
@[simp] theorem bytesOf12 : bytesOf Try.prog 12 = 8 := by kernel_rfl
@[simp] theorem bytesOf13 : bytesOf Try.prog 13 = 24 := by kernel_rfl
@[simp] theorem bytesOf14 : bytesOf Try.prog 14 = 24 := by kernel_rfl
@[simp] theorem bytesOf15 : bytesOf Try.prog 15 = 8 := by kernel_rfl
@[simp] theorem bytesOf16 : bytesOf Try.prog 16 = 8 := by kernel_rfl
@[simp] theorem bytesOf17 : bytesOf Try.prog 17 = 8 := by kernel_rfl
@[simp] theorem bytesOf18 : bytesOf Try.prog 18 = 8 := by kernel_rfl
@[simp] theorem bytesOf19 : bytesOf Try.prog 19 = 8 := by kernel_rfl
@[simp] theorem bytesOf20 : bytesOf Try.prog 20 = 16 := by kernel_rfl
@[simp] theorem bytesOf21 : bytesOf Try.prog 21 = 4 := by kernel_rfl
@[simp] theorem bytesOf22 : bytesOf Try.prog 22 = 24 := by kernel_rfl
@[simp] theorem bytesOf23 : bytesOf Try.prog 23 = 24 := by kernel_rfl
@[simp] theorem bytesOf24 : bytesOf Try.prog 24 = 8 := by kernel_rfl
@[simp] theorem bytesOf25 : bytesOf Try.prog 25 = 16 := by kernel_rfl
@[simp] theorem bytesOf26 : bytesOf Try.prog 26 = 16 := by kernel_rfl
@[simp] theorem bytesOf27 : bytesOf Try.prog 27 = 8 := by kernel_rfl
@[simp] theorem bytesOf28 : bytesOf Try.prog 28 = 8 := by kernel_rfl
@[simp] theorem bytesOf29 : bytesOf Try.prog 29 = 8 := by kernel_rfl
@[simp] theorem bytesOf30 : bytesOf Try.prog 30 = 8 := by kernel_rfl
@[simp] theorem bytesOf31 : bytesOf Try.prog 31 = 16 := by kernel_rfl
@[simp] theorem bytesOf32 : bytesOf Try.prog 32 = 16 := by kernel_rfl
@[simp] theorem bytesOf33 : bytesOf Try.prog 33 = 24 := by kernel_rfl
@[simp] theorem bytesOf34 : bytesOf Try.prog 34 = 32 := by kernel_rfl
@[simp] theorem bytesOf35 : bytesOf Try.prog 35 = 32 := by kernel_rfl
@[simp] theorem bytesOf36 : bytesOf Try.prog 36 = 40 := by kernel_rfl
@[simp] theorem bytesOf37 : bytesOf Try.prog 37 = 40 := by kernel_rfl
@[simp] theorem bytesOf38 : bytesOf Try.prog 38 = 8 := by kernel_rfl
@[simp] theorem bytesOf39 : bytesOf Try.prog 39 = 8 := by kernel_rfl
@[simp] theorem bytesOf40 : bytesOf Try.prog 40 = 24 := by kernel_rfl
@[simp] theorem bytesOf41 : bytesOf Try.prog 41 = 24 := by kernel_rfl
@[simp] theorem bytesOf42 : bytesOf Try.prog 42 = 8 := by kernel_rfl
@[simp] theorem bytesOf43 : bytesOf Try.prog 43 = 8 := by kernel_rfl
@[simp] theorem bytesOf44 : bytesOf Try.prog 44 = 24 := by kernel_rfl
@[simp] theorem bytesOf45 : bytesOf Try.prog 45 = 8 := by kernel_rfl
@[simp] theorem bytesOf46 : bytesOf Try.prog 46 = 8 := by kernel_rfl
@[simp] theorem bytesOf47 : bytesOf Try.prog 47 = 8 := by kernel_rfl
@[simp] theorem bytesOf48 : bytesOf Try.prog 48 = 8 := by kernel_rfl
@[simp] theorem bytesOf49 : bytesOf Try.prog 49 = 8 := by kernel_rfl
@[simp] theorem bytesOf50 : bytesOf Try.prog 50 = 8 := by kernel_rfl
@[simp] theorem bytesOf51 : bytesOf Try.prog 51 = 8 := by kernel_rfl
@[simp] theorem bytesOf52 : bytesOf Try.prog 52 = 8 := by kernel_rfl
@[simp] theorem bytesOf53 : bytesOf Try.prog 53 = 8 := by kernel_rfl
@[simp] theorem bytesOf54 : bytesOf Try.prog 54 = 32 := by kernel_rfl
@[simp] theorem bytesOf55 : bytesOf Try.prog 55 = 32 := by kernel_rfl
@[simp] theorem bytesOf56 : bytesOf Try.prog 56 = 8 := by kernel_rfl
@[simp] theorem bytesOf57 : bytesOf Try.prog 57 = 8 := by kernel_rfl
@[simp] theorem bytesOf58 : bytesOf Try.prog 58 = 24 := by kernel_rfl
@[simp] theorem bytesOf59 : bytesOf Try.prog 59 = 8 := by kernel_rfl
@[simp] theorem bytesOf60 : bytesOf Try.prog 60 = 8 := by kernel_rfl
@[simp] theorem bytesOf61 : bytesOf Try.prog 61 = 56 := by kernel_rfl
@[simp] theorem bytesOf62 : bytesOf Try.prog 62 = 56 := by kernel_rfl
@[simp] theorem bytesOf63 : bytesOf Try.prog 63 = 8 := by kernel_rfl
@[simp] theorem bytesOf64 : bytesOf Try.prog 64 = 8 := by kernel_rfl
@[simp] theorem bytesOf65 : bytesOf Try.prog 65 = 8 := by kernel_rfl
@[simp] theorem bytesOf66 : bytesOf Try.prog 66 = 24 := by kernel_rfl
@[simp] theorem bytesOf67 : bytesOf Try.prog 67 = 24 := by kernel_rfl
@[simp] theorem bytesOf68 : bytesOf Try.prog 68 = 8 := by kernel_rfl
@[simp] theorem bytesOf69 : bytesOf Try.prog 69 = 8 := by kernel_rfl
@[simp] theorem bytesOf70 : bytesOf Try.prog 70 = 8 := by kernel_rfl
@[simp] theorem bytesOf71 : bytesOf Try.prog 71 = 8 := by kernel_rfl
@[simp] theorem bytesOf72 : bytesOf Try.prog 72 = 8 := by kernel_rfl
@[simp] theorem bytesOf73 : bytesOf Try.prog 73 = 8 := by kernel_rfl
@[simp] theorem bytesOf74 : bytesOf Try.prog 74 = 8 := by kernel_rfl
@[simp] theorem bytesOf75 : bytesOf Try.prog 75 = 8 := by kernel_rfl
@[simp] theorem bytesOf76 : bytesOf Try.prog 76 = 8 := by kernel_rfl
@[simp] theorem bytesOf77 : bytesOf Try.prog 77 = 8 := by kernel_rfl
@[simp] theorem bytesOf78 : bytesOf Try.prog 78 = 80 := by kernel_rfl
@[simp] theorem bytesOf79 : bytesOf Try.prog 79 = 136 := by kernel_rfl
@[simp] theorem bytesOf80 : bytesOf Try.prog 80 = 8 := by kernel_rfl
@[simp] theorem bytesOf81 : bytesOf Try.prog 81 = 8 := by kernel_rfl
@[simp] theorem bytesOf82 : bytesOf Try.prog 82 = 40 := by kernel_rfl
@[simp] theorem bytesOf83 : bytesOf Try.prog 83 = 40 := by kernel_rfl
@[simp] theorem bytesOf84 : bytesOf Try.prog 84 = 0 := by kernel_rfl
@[simp] theorem bytesOf85 : bytesOf Try.prog 85 = 0 := by kernel_rfl
@[simp] theorem bytesOf86 : bytesOf Try.prog 86 = 0 := by kernel_rfl
@[simp] theorem bytesOf87 : bytesOf Try.prog 87 = 8 := by kernel_rfl
@[simp] theorem bytesOf88 : bytesOf Try.prog 88 = 4 := by kernel_rfl
@[simp] theorem bytesOf89 : bytesOf Try.prog 89 = 1 := by kernel_rfl
@[simp] theorem bytesOf90 : bytesOf Try.prog 90 = 1 := by kernel_rfl
@[simp] theorem bytesOf91 : bytesOf Try.prog 91 = 8 := by kernel_rfl
@[simp] theorem bytesOf92 : bytesOf Try.prog 92 = 8 := by kernel_rfl
@[simp] theorem bytesOf93 : bytesOf Try.prog 93 = 4 := by kernel_rfl
@[simp] theorem bytesOf94 : bytesOf Try.prog 94 = 4 := by kernel_rfl
@[simp] theorem bytesOf95 : bytesOf Try.prog 95 = 48 := by kernel_rfl
@[simp] theorem bytesOf96 : bytesOf Try.prog 96 = 48 := by kernel_rfl
@[simp] theorem bytesOf97 : bytesOf Try.prog 97 = 8 := by kernel_rfl
@[simp] theorem bytesOf98 : bytesOf Try.prog 98 = 8 := by kernel_rfl
@[simp] theorem bytesOf99 : bytesOf Try.prog 99 = 8 := by kernel_rfl
@[simp] theorem bytesOf100 : bytesOf Try.prog 100 = 8 := by kernel_rfl
@[simp] theorem zeroL2 : zeroL Try.prog 2 = some [.int .i64 0] := by kernel_rfl
@[simp] theorem zeroL3 : zeroL Try.prog 3 = some [.int .i64 0] := by kernel_rfl
@[simp] theorem zeroL4 : zeroL Try.prog 4 = some [.bool false] := by kernel_rfl
@[simp] theorem zeroL5 : zeroL Try.prog 5 = some [.int .u8 0] := by kernel_rfl
@[simp] theorem zeroL6 : zeroL Try.prog 6 = some [.int .u8 0] := by kernel_rfl
@[simp] theorem zeroL7 : zeroL Try.prog 7 = some [.int .i64 0, .int .i64 0, .bool false, .int .u8 0] := by kernel_rfl
@[simp] theorem zeroL8 : zeroL Try.prog 8 = some [.int .i64 0, .int .i64 0, .bool false, .int .u8 0] := by kernel_rfl
@[simp] theorem zeroL9 : zeroL Try.prog 9 = some [.string ByteArray.empty] := by kernel_rfl
@[simp] theorem zeroL10 : zeroL Try.prog 10 = some [.string ByteArray.empty] := by kernel_rfl
@[simp] theorem zeroL11 : zeroL Try.prog 11 = some [.string ByteArray.empty] := by kernel_rfl
@[simp] theorem zeroL12 : zeroL Try.prog 12 = some [.int .u64 0] := by kernel_rfl
@[simp] theorem zeroL13 : zeroL Try.prog 13 = some [.string ByteArray.empty, .int .u64 0] := by kernel_rfl
@[simp] theorem zeroL14 : zeroL Try.prog 14 = some [.string ByteArray.empty, .int .u64 0] := by kernel_rfl
@[simp] theorem zeroL15 : zeroL Try.prog 15 = some [.pointer none] := by kernel_rfl
@[simp] theorem zeroL16 : zeroL Try.prog 16 = some [.pointer none] := by kernel_rfl
@[simp] theorem zeroL17 : zeroL Try.prog 17 = some [.pointer none] := by kernel_rfl
@[simp] theorem zeroL18 : zeroL Try.prog 18 = some [.pointer none] := by kernel_rfl
@[simp] theorem zeroL19 : zeroL Try.prog 19 = some [.pointer none] := by kernel_rfl
@[simp] theorem zeroL20 : zeroL Try.prog 20 = some [.nilIface] := by kernel_rfl
@[simp] theorem zeroL21 : zeroL Try.prog 21 = some [.int .i32 0] := by kernel_rfl
@[simp] theorem zeroL22 : zeroL Try.prog 22 = some [.slice none 0 0] := by kernel_rfl
@[simp] theorem zeroL23 : zeroL Try.prog 23 = some [.slice none 0 0] := by kernel_rfl
@[simp] theorem zeroL25 : zeroL Try.prog 25 = some [.int .i64 0, .int .i64 0] := by kernel_rfl
@[simp] theorem zeroL26 : zeroL Try.prog 26 = some [.int .i64 0, .int .i64 0] := by kernel_rfl
@[simp] theorem zeroL31 : zeroL Try.prog 31 = some [.int .i64 0, .int .i64 0] := by kernel_rfl
@[simp] theorem zeroL32 : zeroL Try.prog 32 = some [.int .i64 0, .int .i64 0] := by kernel_rfl
@[simp] theorem zeroL33 : zeroL Try.prog 33 = some [.slice none 0 0] := by kernel_rfl
@[simp] theorem zeroL34 : zeroL Try.prog 34 = some [.int .i64 0, .slice none 0 0] := by kernel_rfl
@[simp] theorem zeroL35 : zeroL Try.prog 35 = some [.int .i64 0, .slice none 0 0] := by kernel_rfl
@[simp] theorem zeroL36 : zeroL Try.prog 36 = some [.int .i64 0, .int .i64 0, .slice none 0 0] := by kernel_rfl
@[simp] theorem zeroL37 : zeroL Try.prog 37 = some [.int .i64 0, .int .i64 0, .slice none 0 0] := by kernel_rfl
@[simp] theorem zeroL40 : zeroL Try.prog 40 = some [.int .i64 0, .int .i64 0, .bool false, .bool false] := by kernel_rfl
@[simp] theorem zeroL41 : zeroL Try.prog 41 = some [.int .i64 0, .int .i64 0, .bool false, .bool false] := by kernel_rfl
@[simp] theorem zeroL44 : zeroL Try.prog 44 = some [.slice none 0 0] := by kernel_rfl
@[simp] theorem zeroL47 : zeroL Try.prog 47 = some [.pointer none] := by kernel_rfl
@[simp] theorem zeroL54 : zeroL Try.prog 54 = some [.slice none 0 0, .int .i64 0] := by kernel_rfl
@[simp] theorem zeroL55 : zeroL Try.prog 55 = some [.slice none 0 0, .int .i64 0] := by kernel_rfl
@[simp] theorem zeroL58 : zeroL Try.prog 58 = some [.slice none 0 0] := by kernel_rfl
@[simp] theorem zeroL60 : zeroL Try.prog 60 = some [.pointer none] := by kernel_rfl
@[simp] theorem zeroL61 : zeroL Try.prog 61 = some [.pointer none, .slice none 0 0, .int .i64 0, .int .i64 0, .bool false, .bool false] := by kernel_rfl
@[simp] theorem zeroL62 : zeroL Try.prog 62 = some [.pointer none, .slice none 0 0, .int .i64 0, .int .i64 0, .bool false, .bool false] := by kernel_rfl
@[simp] theorem zeroL66 : zeroL Try.prog 66 = some [.int .i64 0, .int .i64 0, .int .i64 0] := by kernel_rfl
@[simp] theorem zeroL67 : zeroL Try.prog 67 = some [.int .i64 0, .int .i64 0, .int .i64 0] := by kernel_rfl
@[simp] theorem zeroL78 : zeroL Try.prog 78 = some [.int .i64 0, .int .i64 0, .int .i64 0, .int .i64 0, .int .i64 0, .int .i64 0, .int .i64 0, .int .i64 0, .int .i64 0, .int .i64 0] := by kernel_rfl
@[simp] theorem zeroL79 : zeroL Try.prog 79 = some [.int .i64 0, .int .i64 0, .int .i64 0, .int .i64 0, .int .i64 0, .int .i64 0, .int .i64 0, .int .i64 0, .int .i64 0, .int .i64 0, .int .i64 0, .int .i64 0, .int .i64 0, .int .i64 0, .int .i64 0, .int .i64 0, .int .i64 0] := by kernel_rfl
@[simp] theorem zeroL82 : zeroL Try.prog 82 = some [.pointer none, .pointer none, .pointer none, .string ByteArray.empty] := by kernel_rfl
@[simp] theorem zeroL83 : zeroL Try.prog 83 = some [.pointer none, .pointer none, .pointer none, .string ByteArray.empty] := by kernel_rfl
@[simp] theorem zeroL84 : zeroL Try.prog 84 = some [] := by kernel_rfl
@[simp] theorem zeroL85 : zeroL Try.prog 85 = some [] := by kernel_rfl
@[simp] theorem zeroL86 : zeroL Try.prog 86 = some [] := by kernel_rfl
@[simp] theorem zeroL88 : zeroL Try.prog 88 = some [.int .u32 0] := by kernel_rfl
@[simp] theorem zeroL89 : zeroL Try.prog 89 = some [.int .u8 0] := by kernel_rfl
@[simp] theorem zeroL90 : zeroL Try.prog 90 = some [.int .u8 0] := by kernel_rfl
@[simp] theorem zeroL92 : zeroL Try.prog 92 = some [.pointer none] := by kernel_rfl
@[simp] theorem zeroL93 : zeroL Try.prog 93 = some [.int .i32 0] := by kernel_rfl
@[simp] theorem zeroL94 : zeroL Try.prog 94 = some [.int .i32 0] := by kernel_rfl
@[simp] theorem zeroL99 : zeroL Try.prog 99 = some [.pointer none] := by kernel_rfl
@[simp] theorem zeroL100 : zeroL Try.prog 100 = some [.int .u64 0] := by kernel_rfl

end Go.Proofs.Ytogbbbgmhobfiaa
