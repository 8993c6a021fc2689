/-
  Facts on the types of the program: how many cells each has, and its zero value. Printed by a program (mkfacts). Conditions: none.
-/
import Derived.Test.YtnnpmopnnamakaaProg
import Derived.Test.YtnnpmopnnamakaaMw1
import Derived.Test.YtnnpmopnnamakaaSww1
import Derived.KernelRfl
set_option maxRecDepth 100000
namespace Go.Proofs.Ytnnpmopnnamakaa
open Go Go.Sx

theorem hmx : Try.prog.follows .mixedOrders = true := by kernel_rfl
@[simp] theorem cellsOf0 : Try.prog.cellsOf 0 = 1 := by kernel_rfl
@[simp] theorem cellsOf1 : Try.prog.cellsOf 1 = 1 := by kernel_rfl
@[simp] theorem cellsOf2 : Try.prog.cellsOf 2 = 1 := by kernel_rfl
@[simp] theorem cellsOf3 : Try.prog.cellsOf 3 = 1 := by kernel_rfl
@[simp] theorem cellsOf4 : Try.prog.cellsOf 4 = 1 := by kernel_rfl
@[simp] theorem cellsOf5 : Try.prog.cellsOf 5 = 1 := by kernel_rfl
@[simp] theorem cellsOf6 : Try.prog.cellsOf 6 = 1 := by kernel_rfl
@[simp] theorem cellsOf7 : Try.prog.cellsOf 7 = 4 := by kernel_rfl
@[simp] theorem cellsOf8 : Try.prog.cellsOf 8 = 4 := by kernel_rfl
@[simp] theorem cellsOf9 : Try.prog.cellsOf 9 = 1 := by kernel_rfl
@[simp] theorem cellsOf10 : Try.prog.cellsOf 10 = 1 := by kernel_rfl
@[simp] theorem cellsOf11 : Try.prog.cellsOf 11 = 1 := by kernel_rfl
@[simp] theorem cellsOf12 : Try.prog.cellsOf 12 = 1 := by kernel_rfl
@[simp] theorem cellsOf13 : Try.prog.cellsOf 13 = 2 := by kernel_rfl
@[simp] theorem cellsOf14 : Try.prog.cellsOf 14 = 2 := by kernel_rfl
@[simp] theorem cellsOf15 : Try.prog.cellsOf 15 = 1 := by kernel_rfl
@[simp] theorem cellsOf16 : Try.prog.cellsOf 16 = 1 := by kernel_rfl
@[simp] theorem cellsOf17 : Try.prog.cellsOf 17 = 1 := by kernel_rfl
@[simp] theorem cellsOf18 : Try.prog.cellsOf 18 = 1 := by kernel_rfl
@[simp] theorem cellsOf19 : Try.prog.cellsOf 19 = 1 := by kernel_rfl
@[simp] theorem cellsOf20 : Try.prog.cellsOf 20 = 1 := by kernel_rfl
@[simp] theorem cellsOf21 : Try.prog.cellsOf 21 = 1 := by kernel_rfl
@[simp] theorem cellsOf22 : Try.prog.cellsOf 22 = 1 := by kernel_rfl
@[simp] theorem cellsOf23 : Try.prog.cellsOf 23 = 1 := by kernel_rfl
@[simp] theorem cellsOf24 : Try.prog.cellsOf 24 = 1 := by kernel_rfl
@[simp] theorem cellsOf25 : Try.prog.cellsOf 25 = 1 := by kernel_rfl
@[simp] theorem cellsOf26 : Try.prog.cellsOf 26 = 1 := by kernel_rfl
@[simp] theorem cellsOf27 : Try.prog.cellsOf 27 = 1 := by kernel_rfl
@[simp] theorem cellsOf28 : Try.prog.cellsOf 28 = 1 := by kernel_rfl
@[simp] theorem cellsOf29 : Try.prog.cellsOf 29 = 1 := by kernel_rfl
@[simp] theorem cellsOf30 : Try.prog.cellsOf 30 = 1 := by kernel_rfl
@[simp] theorem cellsOf31 : Try.prog.cellsOf 31 = 1 := by kernel_rfl
@[simp] theorem cellsOf32 : Try.prog.cellsOf 32 = 1 := by kernel_rfl
@[simp] theorem cellsOf33 : Try.prog.cellsOf 33 = 1 := by kernel_rfl
@[simp] theorem cellsOf34 : Try.prog.cellsOf 34 = 1 := by kernel_rfl
@[simp] theorem cellsOf35 : Try.prog.cellsOf 35 = 2 := by kernel_rfl
@[simp] theorem cellsOf36 : Try.prog.cellsOf 36 = 2 := by kernel_rfl
@[simp] theorem cellsOf37 : Try.prog.cellsOf 37 = 1 := by kernel_rfl
@[simp] theorem cellsOf38 : Try.prog.cellsOf 38 = 1 := by kernel_rfl
@[simp] theorem cellsOf39 : Try.prog.cellsOf 39 = 1 := by kernel_rfl
@[simp] theorem cellsOf40 : Try.prog.cellsOf 40 = 1 := by kernel_rfl
@[simp] theorem cellsOf41 : Try.prog.cellsOf 41 = 2 := by kernel_rfl
@[simp] theorem cellsOf42 : Try.prog.cellsOf 42 = 2 := by kernel_rfl
@[simp] theorem cellsOf43 : Try.prog.cellsOf 43 = 3 := by kernel_rfl
@[simp] theorem cellsOf44 : Try.prog.cellsOf 44 = 3 := by kernel_rfl
@[simp] theorem cellsOf45 : Try.prog.cellsOf 45 = 1 := by kernel_rfl
@[simp] theorem cellsOf46 : Try.prog.cellsOf 46 = 2 := by kernel_rfl
@[simp] theorem cellsOf47 : Try.prog.cellsOf 47 = 2 := by kernel_rfl
@[simp] theorem cellsOf48 : Try.prog.cellsOf 48 = 3 := by kernel_rfl
@[simp] theorem cellsOf49 : Try.prog.cellsOf 49 = 3 := by kernel_rfl
@[simp] theorem cellsOf50 : Try.prog.cellsOf 50 = 1 := by kernel_rfl
@[simp] theorem cellsOf51 : Try.prog.cellsOf 51 = 1 := by kernel_rfl
@[simp] theorem cellsOf52 : Try.prog.cellsOf 52 = 1 := by kernel_rfl
@[simp] theorem cellsOf53 : Try.prog.cellsOf 53 = 3 := by kernel_rfl
@[simp] theorem cellsOf54 : Try.prog.cellsOf 54 = 3 := by kernel_rfl
@[simp] theorem cellsOf55 : Try.prog.cellsOf 55 = 1 := by kernel_rfl
@[simp] theorem cellsOf56 : Try.prog.cellsOf 56 = 1 := by kernel_rfl
@[simp] theorem cellsOf57 : Try.prog.cellsOf 57 = 4 := by kernel_rfl
@[simp] theorem cellsOf58 : Try.prog.cellsOf 58 = 4 := by kernel_rfl
@[simp] theorem cellsOf59 : Try.prog.cellsOf 59 = 1 := by kernel_rfl
@[simp] theorem cellsOf60 : Try.prog.cellsOf 60 = 1 := by kernel_rfl
@[simp] theorem cellsOf61 : Try.prog.cellsOf 61 = 2 := by kernel_rfl
@[simp] theorem cellsOf62 : Try.prog.cellsOf 62 = 2 := by kernel_rfl
@[simp] theorem cellsOf63 : Try.prog.cellsOf 63 = 1 := by kernel_rfl
@[simp] theorem cellsOf64 : Try.prog.cellsOf 64 = 1 := by kernel_rfl
@[simp] theorem cellsOf65 : Try.prog.cellsOf 65 = 1 := by kernel_rfl
@[simp] theorem cellsOf66 : Try.prog.cellsOf 66 = 1 := by kernel_rfl
@[simp] theorem cellsOf67 : Try.prog.cellsOf 67 = 1 := by kernel_rfl
@[simp] theorem cellsOf68 : Try.prog.cellsOf 68 = 1 := by kernel_rfl
@[simp] theorem cellsOf69 : Try.prog.cellsOf 69 = 1 := by kernel_rfl
@[simp] theorem cellsOf70 : Try.prog.cellsOf 70 = 1 := by kernel_rfl
@[simp] theorem cellsOf71 : Try.prog.cellsOf 71 = 1 := by kernel_rfl
@[simp] theorem cellsOf72 : Try.prog.cellsOf 72 = 1 := by kernel_rfl
@[simp] theorem cellsOf73 : Try.prog.cellsOf 73 = 1 := by kernel_rfl
@[simp] theorem cellsOf74 : Try.prog.cellsOf 74 = 1 := by kernel_rfl
@[simp] theorem cellsOf75 : Try.prog.cellsOf 75 = 1 := by kernel_rfl
@[simp] theorem cellsOf76 : Try.prog.cellsOf 76 = 1 := by kernel_rfl
@[simp] theorem cellsOf77 : Try.prog.cellsOf 77 = 1 := by kernel_rfl
@[simp] theorem cellsOf78 : Try.prog.cellsOf 78 = 1 := by kernel_rfl
@[simp] theorem cellsOf79 : Try.prog.cellsOf 79 = 2 := by kernel_rfl
@[simp] theorem cellsOf80 : Try.prog.cellsOf 80 = 2 := by kernel_rfl
@[simp] theorem cellsOf81 : Try.prog.cellsOf 81 = 1 := by kernel_rfl
@[simp] theorem cellsOf82 : Try.prog.cellsOf 82 = 1 := by kernel_rfl
@[simp] theorem cellsOf83 : Try.prog.cellsOf 83 = 1 := by kernel_rfl
@[simp] theorem cellsOf84 : Try.prog.cellsOf 84 = 1 := by kernel_rfl
@[simp] theorem cellsOf85 : Try.prog.cellsOf 85 = 1 := by kernel_rfl
@[simp] theorem cellsOf86 : Try.prog.cellsOf 86 = 6 := by kernel_rfl
@[simp] theorem cellsOf87 : Try.prog.cellsOf 87 = 6 := by kernel_rfl
@[simp] theorem cellsOf88 : Try.prog.cellsOf 88 = 1 := by kernel_rfl
@[simp] theorem cellsOf89 : Try.prog.cellsOf 89 = 1 := by kernel_rfl
@[simp] theorem cellsOf90 : Try.prog.cellsOf 90 = 1 := by kernel_rfl
@[simp] theorem cellsOf91 : Try.prog.cellsOf 91 = 1 := by kernel_rfl
@[simp] theorem cellsOf92 : Try.prog.cellsOf 92 = 3 := by kernel_rfl
@[simp] theorem cellsOf93 : Try.prog.cellsOf 93 = 1 := by kernel_rfl
@[simp] theorem cellsOf94 : Try.prog.cellsOf 94 = 1 := by kernel_rfl
@[simp] theorem cellsOf95 : Try.prog.cellsOf 95 = 1 := by kernel_rfl
@[simp] theorem cellsOf96 : Try.prog.cellsOf 96 = 1 := by kernel_rfl
@[simp] theorem cellsOf97 : Try.prog.cellsOf 97 = 1 := by kernel_rfl
@[simp] theorem cellsOf98 : Try.prog.cellsOf 98 = 1 := by kernel_rfl
@[simp] theorem cellsOf99 : Try.prog.cellsOf 99 = 1 := by kernel_rfl
@[simp] theorem cellsOf100 : Try.prog.cellsOf 100 = 1 := by kernel_rfl
@[simp] theorem cellsOf101 : Try.prog.cellsOf 101 = 1 := by kernel_rfl
@[simp] theorem cellsOf102 : Try.prog.cellsOf 102 = 1 := by kernel_rfl
@[simp] theorem cellsOf103 : Try.prog.cellsOf 103 = 1 := by kernel_rfl
@[simp] theorem cellsOf104 : Try.prog.cellsOf 104 = 1 := by kernel_rfl
@[simp] theorem cellsOf105 : Try.prog.cellsOf 105 = 10 := by kernel_rfl
@[simp] theorem cellsOf106 : Try.prog.cellsOf 106 = 17 := by kernel_rfl
@[simp] theorem cellsOf107 : Try.prog.cellsOf 107 = 1 := by kernel_rfl
@[simp] theorem cellsOf108 : Try.prog.cellsOf 108 = 1 := by kernel_rfl
@[simp] theorem cellsOf109 : Try.prog.cellsOf 109 = 4 := by kernel_rfl
@[simp] theorem cellsOf110 : Try.prog.cellsOf 110 = 4 := by kernel_rfl
@[simp] theorem cellsOf111 : Try.prog.cellsOf 111 = 0 := by kernel_rfl
@[simp] theorem cellsOf112 : Try.prog.cellsOf 112 = 0 := by kernel_rfl
@[simp] theorem cellsOf113 : Try.prog.cellsOf 113 = 0 := by kernel_rfl
@[simp] theorem cellsOf114 : Try.prog.cellsOf 114 = 1 := by kernel_rfl
@[simp] theorem cellsOf115 : Try.prog.cellsOf 115 = 1 := by kernel_rfl
@[simp] theorem cellsOf116 : Try.prog.cellsOf 116 = 1 := by kernel_rfl
@[simp] theorem cellsOf117 : Try.prog.cellsOf 117 = 1 := by kernel_rfl
@[simp] theorem cellsOf118 : Try.prog.cellsOf 118 = 1 := by kernel_rfl
@[simp] theorem cellsOf119 : Try.prog.cellsOf 119 = 1 := by kernel_rfl
@[simp] theorem cellsOf120 : Try.prog.cellsOf 120 = 1 := by kernel_rfl
@[simp] theorem cellsOf121 : Try.prog.cellsOf 121 = 1 := by kernel_rfl
@[simp] theorem cellsOf122 : Try.prog.cellsOf 122 = 11 := by kernel_rfl
@[simp] theorem cellsOf123 : Try.prog.cellsOf 123 = 11 := by kernel_rfl
@[simp] theorem cellsOf124 : Try.prog.cellsOf 124 = 1 := by kernel_rfl
@[simp] theorem cellsOf125 : Try.prog.cellsOf 125 = 1 := by kernel_rfl
@[simp] theorem cellsOf126 : Try.prog.cellsOf 126 = 1 := by kernel_rfl
@[simp] theorem cellsOf127 : Try.prog.cellsOf 127 = 1 := by kernel_rfl
@[simp] theorem bytesOf0 : bytesOf Try.prog 0 = 0 := by kernel_rfl
@[simp] theorem bytesOf1 : bytesOf Try.prog 1 = 8 := by kernel_rfl
@[simp] theorem bytesOf2 : bytesOf Try.prog 2 = 8 := by kernel_rfl
@[simp] theorem bytesOf3 : bytesOf Try.prog 3 = 8 := by kernel_rfl
@[simp] theorem bytesOf4 : bytesOf Try.prog 4 = 1 := by kernel_rfl
@[simp] theorem bytesOf5 : bytesOf Try.prog 5 = 1 := by kernel_rfl
@[simp] theorem bytesOf6 : bytesOf Try.prog 6 = 1 := by kernel_rfl
@[simp] theorem bytesOf7 : bytesOf Try.prog 7 = 24 := by kernel_rfl
@[simp] theorem bytesOf8 : bytesOf Try.prog 8 = 24 := by kernel_rfl
@[simp] theorem bytesOf9 : bytesOf Try.prog 9 = 16 := by kernel_rfl
@[simp] theorem bytesOf10 : bytesOf Try.prog 10 = 16 := by kernel_rfl
@[simp] theorem bytesOf11 : bytesOf Try.prog 11 = 16 := by kernel_rfl
@[simp] theorem bytesOf12 : bytesOf Try.prog 12 = 8 := by kernel_rfl
@[simp] theorem bytesOf13 : bytesOf Try.prog 13 = 24 := by kernel_rfl
@[simp] theorem bytesOf14 : bytesOf Try.prog 14 = 24 := by kernel_rfl
@[simp] theorem bytesOf15 : bytesOf Try.prog 15 = 8 := by kernel_rfl
@[simp] theorem bytesOf16 : bytesOf Try.prog 16 = 8 := by kernel_rfl
@[simp] theorem bytesOf17 : bytesOf Try.prog 17 = 8 := by kernel_rfl
@[simp] theorem bytesOf18 : bytesOf Try.prog 18 = 8 := by kernel_rfl
@[simp] theorem bytesOf19 : bytesOf Try.prog 19 = 8 := by kernel_rfl
@[simp] theorem bytesOf20 : bytesOf Try.prog 20 = 16 := by kernel_rfl
@[simp] theorem bytesOf21 : bytesOf Try.prog 21 = 4 := by kernel_rfl
@[simp] theorem bytesOf22 : bytesOf Try.prog 22 = 24 := by kernel_rfl
@[simp] theorem bytesOf23 : bytesOf Try.prog 23 = 8 := by kernel_rfl
@[simp] theorem bytesOf24 : bytesOf Try.prog 24 = 24 := by kernel_rfl
@[simp] theorem bytesOf25 : bytesOf Try.prog 25 = 8 := by kernel_rfl
@[simp] theorem bytesOf26 : bytesOf Try.prog 26 = 24 := by kernel_rfl
@[simp] theorem bytesOf27 : bytesOf Try.prog 27 = 8 := by kernel_rfl
@[simp] theorem bytesOf28 : bytesOf Try.prog 28 = 8 := by kernel_rfl
@[simp] theorem bytesOf29 : bytesOf Try.prog 29 = 8 := by kernel_rfl
@[simp] theorem bytesOf30 : bytesOf Try.prog 30 = 8 := by kernel_rfl
@[simp] theorem bytesOf31 : bytesOf Try.prog 31 = 8 := by kernel_rfl
@[simp] theorem bytesOf32 : bytesOf Try.prog 32 = 8 := by kernel_rfl
@[simp] theorem bytesOf33 : bytesOf Try.prog 33 = 24 := by kernel_rfl
@[simp] theorem bytesOf34 : bytesOf Try.prog 34 = 8 := by kernel_rfl
@[simp] theorem bytesOf35 : bytesOf Try.prog 35 = 16 := by kernel_rfl
@[simp] theorem bytesOf36 : bytesOf Try.prog 36 = 16 := by kernel_rfl
@[simp] theorem bytesOf37 : bytesOf Try.prog 37 = 8 := by kernel_rfl
@[simp] theorem bytesOf38 : bytesOf Try.prog 38 = 8 := by kernel_rfl
@[simp] theorem bytesOf39 : bytesOf Try.prog 39 = 8 := by kernel_rfl
@[simp] theorem bytesOf40 : bytesOf Try.prog 40 = 24 := by kernel_rfl
@[simp] theorem bytesOf41 : bytesOf Try.prog 41 = 32 := by kernel_rfl
@[simp] theorem bytesOf42 : bytesOf Try.prog 42 = 32 := by kernel_rfl
@[simp] theorem bytesOf43 : bytesOf Try.prog 43 = 40 := by kernel_rfl
@[simp] theorem bytesOf44 : bytesOf Try.prog 44 = 40 := by kernel_rfl
@[simp] theorem bytesOf45 : bytesOf Try.prog 45 = 24 := by kernel_rfl
@[simp] theorem bytesOf46 : bytesOf Try.prog 46 = 32 := by kernel_rfl
@[simp] theorem bytesOf47 : bytesOf Try.prog 47 = 32 := by kernel_rfl
@[simp] theorem bytesOf48 : bytesOf Try.prog 48 = 40 := by kernel_rfl
@[simp] theorem bytesOf49 : bytesOf Try.prog 49 = 40 := by kernel_rfl
@[simp] theorem bytesOf50 : bytesOf Try.prog 50 = 8 := by kernel_rfl
@[simp] theorem bytesOf51 : bytesOf Try.prog 51 = 8 := by kernel_rfl
@[simp] theorem bytesOf52 : bytesOf Try.prog 52 = 8 := by kernel_rfl
@[simp] theorem bytesOf53 : bytesOf Try.prog 53 = 24 := by kernel_rfl
@[simp] theorem bytesOf54 : bytesOf Try.prog 54 = 24 := by kernel_rfl
@[simp] theorem bytesOf55 : bytesOf Try.prog 55 = 8 := by kernel_rfl
@[simp] theorem bytesOf56 : bytesOf Try.prog 56 = 8 := by kernel_rfl
@[simp] theorem bytesOf57 : bytesOf Try.prog 57 = 24 := by kernel_rfl
@[simp] theorem bytesOf58 : bytesOf Try.prog 58 = 24 := by kernel_rfl
@[simp] theorem bytesOf59 : bytesOf Try.prog 59 = 8 := by kernel_rfl
@[simp] theorem bytesOf60 : bytesOf Try.prog 60 = 8 := by kernel_rfl
@[simp] theorem bytesOf61 : bytesOf Try.prog 61 = 16 := by kernel_rfl
@[simp] theorem bytesOf62 : bytesOf Try.prog 62 = 16 := by kernel_rfl
@[simp] theorem bytesOf63 : bytesOf Try.prog 63 = 8 := by kernel_rfl
@[simp] theorem bytesOf64 : bytesOf Try.prog 64 = 8 := by kernel_rfl
@[simp] theorem bytesOf65 : bytesOf Try.prog 65 = 8 := by kernel_rfl
@[simp] theorem bytesOf66 : bytesOf Try.prog 66 = 8 := by kernel_rfl
@[simp] theorem bytesOf67 : bytesOf Try.prog 67 = 8 := by kernel_rfl
@[simp] theorem bytesOf68 : bytesOf Try.prog 68 = 8 := by kernel_rfl
@[simp] theorem bytesOf69 : bytesOf Try.prog 69 = 8 := by kernel_rfl
@[simp] theorem bytesOf70 : bytesOf Try.prog 70 = 8 := by kernel_rfl
@[simp] theorem bytesOf71 : bytesOf Try.prog 71 = 8 := by kernel_rfl
@[simp] theorem bytesOf72 : bytesOf Try.prog 72 = 8 := by kernel_rfl
@[simp] theorem bytesOf73 : bytesOf Try.prog 73 = 8 := by kernel_rfl
@[simp] theorem bytesOf74 : bytesOf Try.prog 74 = 8 := by kernel_rfl
@[simp] theorem bytesOf75 : bytesOf Try.prog 75 = 8 := by kernel_rfl
@[simp] theorem bytesOf76 : bytesOf Try.prog 76 = 8 := by kernel_rfl
@[simp] theorem bytesOf77 : bytesOf Try.prog 77 = 8 := by kernel_rfl
@[simp] theorem bytesOf78 : bytesOf Try.prog 78 = 8 := by kernel_rfl
@[simp] theorem bytesOf79 : bytesOf Try.prog 79 = 32 := by kernel_rfl
@[simp] theorem bytesOf80 : bytesOf Try.prog 80 = 32 := by kernel_rfl
@[simp] theorem bytesOf81 : bytesOf Try.prog 81 = 8 := by kernel_rfl
@[simp] theorem bytesOf82 : bytesOf Try.prog 82 = 8 := by kernel_rfl
@[simp] theorem bytesOf83 : bytesOf Try.prog 83 = 24 := by kernel_rfl
@[simp] theorem bytesOf84 : bytesOf Try.prog 84 = 8 := by kernel_rfl
@[simp] theorem bytesOf85 : bytesOf Try.prog 85 = 8 := by kernel_rfl
@[simp] theorem bytesOf86 : bytesOf Try.prog 86 = 56 := by kernel_rfl
@[simp] theorem bytesOf87 : bytesOf Try.prog 87 = 56 := by kernel_rfl
@[simp] theorem bytesOf88 : bytesOf Try.prog 88 = 8 := by kernel_rfl
@[simp] theorem bytesOf89 : bytesOf Try.prog 89 = 8 := by kernel_rfl
@[simp] theorem bytesOf90 : bytesOf Try.prog 90 = 8 := by kernel_rfl
@[simp] theorem bytesOf91 : bytesOf Try.prog 91 = 8 := by kernel_rfl
@[simp] theorem bytesOf92 : bytesOf Try.prog 92 = 24 := by kernel_rfl
@[simp] theorem bytesOf93 : bytesOf Try.prog 93 = 8 := by kernel_rfl
@[simp] theorem bytesOf94 : bytesOf Try.prog 94 = 8 := by kernel_rfl
@[simp] theorem bytesOf95 : bytesOf Try.prog 95 = 8 := by kernel_rfl
@[simp] theorem bytesOf96 : bytesOf Try.prog 96 = 8 := by kernel_rfl
@[simp] theorem bytesOf97 : bytesOf Try.prog 97 = 8 := by kernel_rfl
@[simp] theorem bytesOf98 : bytesOf Try.prog 98 = 8 := by kernel_rfl
@[simp] theorem bytesOf99 : bytesOf Try.prog 99 = 8 := by kernel_rfl
@[simp] theorem bytesOf100 : bytesOf Try.prog 100 = 8 := by kernel_rfl
@[simp] theorem bytesOf101 : bytesOf Try.prog 101 = 8 := by kernel_rfl
@[simp] theorem bytesOf102 : bytesOf Try.prog 102 = 8 := by kernel_rfl
@[simp] theorem bytesOf103 : bytesOf Try.prog 103 = 8 := by kernel_rfl
@[simp] theorem bytesOf104 : bytesOf Try.prog 104 = 8 := by kernel_rfl
@[simp] theorem bytesOf105 : bytesOf Try.prog 105 = 80 := by kernel_rfl
@[simp] theorem bytesOf106 : bytesOf Try.prog 106 = 136 := by kernel_rfl
@[simp] theorem bytesOf107 : bytesOf Try.prog 107 = 8 := by kernel_rfl
@[simp] theorem bytesOf108 : bytesOf Try.prog 108 = 8 := by kernel_rfl
@[simp] theorem bytesOf109 : bytesOf Try.prog 109 = 40 := by kernel_rfl
@[simp] theorem bytesOf110 : bytesOf Try.prog 110 = 40 := by kernel_rfl
@[simp] theorem bytesOf111 : bytesOf Try.prog 111 = 0 := by kernel_rfl
@[simp] theorem bytesOf112 : bytesOf Try.prog 112 = 0 := by kernel_rfl
@[simp] theorem bytesOf113 : bytesOf Try.prog 113 = 0 := by kernel_rfl
@[simp] theorem bytesOf114 : bytesOf Try.prog 114 = 8 := by kernel_rfl
@[simp] theorem bytesOf115 : bytesOf Try.prog 115 = 4 := by kernel_rfl
@[simp] theorem bytesOf116 : bytesOf Try.prog 116 = 1 := by kernel_rfl
@[simp] theorem bytesOf117 : bytesOf Try.prog 117 = 1 := by kernel_rfl
@[simp] theorem bytesOf118 : bytesOf Try.prog 118 = 8 := by kernel_rfl
@[simp] theorem bytesOf119 : bytesOf Try.prog 119 = 8 := by kernel_rfl
@[simp] theorem bytesOf120 : bytesOf Try.prog 120 = 4 := by kernel_rfl
@[simp] theorem bytesOf121 : bytesOf Try.prog 121 = 4 := by kernel_rfl
@[simp] theorem bytesOf122 : bytesOf Try.prog 122 = 48 := by kernel_rfl
@[simp] theorem bytesOf123 : bytesOf Try.prog 123 = 48 := by kernel_rfl
@[simp] theorem bytesOf124 : bytesOf Try.prog 124 = 8 := by kernel_rfl
@[simp] theorem bytesOf125 : bytesOf Try.prog 125 = 8 := by kernel_rfl
@[simp] theorem bytesOf126 : bytesOf Try.prog 126 = 8 := by kernel_rfl
@[simp] theorem bytesOf127 : bytesOf Try.prog 127 = 8 := by kernel_rfl
@[simp] theorem zeroL2 : zeroL Try.prog 2 = some [.int .i64 0] := by kernel_rfl
@[simp] theorem zeroL3 : zeroL Try.prog 3 = some [.int .i64 0] := by kernel_rfl
@[simp] theorem zeroL4 : zeroL Try.prog 4 = some [.bool false] := by kernel_rfl
@[simp] theorem zeroL5 : zeroL Try.prog 5 = some [.int .u8 0] := by kernel_rfl
@[simp] theorem zeroL6 : zeroL Try.prog 6 = some [.int .u8 0] := by kernel_rfl
@[simp] theorem zeroL7 : zeroL Try.prog 7 = some [.int .i64 0, .int .i64 0, .bool false, .int .u8 0] := by kernel_rfl
@[simp] theorem zeroL8 : zeroL Try.prog 8 = some [.int .i64 0, .int .i64 0, .bool false, .int .u8 0] := by kernel_rfl
@[simp] theorem zeroL9 : zeroL Try.prog 9 = some [.string ByteArray.empty] := by kernel_rfl
@[simp] theorem zeroL10 : zeroL Try.prog 10 = some [.string ByteArray.empty] := by kernel_rfl
@[simp] theorem zeroL11 : zeroL Try.prog 11 = some [.string ByteArray.empty] := by kernel_rfl
@[simp] theorem zeroL12 : zeroL Try.prog 12 = some [.int .u64 0] := by kernel_rfl
@[simp] theorem zeroL13 : zeroL Try.prog 13 = some [.string ByteArray.empty, .int .u64 0] := by kernel_rfl
@[simp] theorem zeroL14 : zeroL Try.prog 14 = some [.string ByteArray.empty, .int .u64 0] := by kernel_rfl
@[simp] theorem zeroL15 : zeroL Try.prog 15 = some [.pointer none] := by kernel_rfl
@[simp] theorem zeroL16 : zeroL Try.prog 16 = some [.pointer none] := by kernel_rfl
@[simp] theorem zeroL17 : zeroL Try.prog 17 = some [.pointer none] := by kernel_rfl
@[simp] theorem zeroL18 : zeroL Try.prog 18 = some [.pointer none] := by kernel_rfl
@[simp] theorem zeroL19 : zeroL Try.prog 19 = some [.pointer none] := by kernel_rfl
@[simp] theorem zeroL20 : zeroL Try.prog 20 = some [.nilIface] := by kernel_rfl
@[simp] theorem zeroL21 : zeroL Try.prog 21 = some [.int .i32 0] := by kernel_rfl
@[simp] theorem zeroL22 : zeroL Try.prog 22 = some [.slice none 0 0] := by kernel_rfl
@[simp] theorem zeroL24 : zeroL Try.prog 24 = some [.slice none 0 0] := by kernel_rfl
@[simp] theorem zeroL26 : zeroL Try.prog 26 = some [.slice none 0 0] := by kernel_rfl
@[simp] theorem zeroL33 : zeroL Try.prog 33 = some [.slice none 0 0] := by kernel_rfl
@[simp] theorem zeroL35 : zeroL Try.prog 35 = some [.int .i64 0, .int .i64 0] := by kernel_rfl
@[simp] theorem zeroL36 : zeroL Try.prog 36 = some [.int .i64 0, .int .i64 0] := by kernel_rfl
@[simp] theorem zeroL40 : zeroL Try.prog 40 = some [.slice none 0 0] := by kernel_rfl
@[simp] theorem zeroL41 : zeroL Try.prog 41 = some [.int .i64 0, .slice none 0 0] := by kernel_rfl
@[simp] theorem zeroL42 : zeroL Try.prog 42 = some [.int .i64 0, .slice none 0 0] := by kernel_rfl
@[simp] theorem zeroL43 : zeroL Try.prog 43 = some [.int .i64 0, .int .i64 0, .slice none 0 0] := by kernel_rfl
@[simp] theorem zeroL44 : zeroL Try.prog 44 = some [.int .i64 0, .int .i64 0, .slice none 0 0] := by kernel_rfl
@[simp] theorem zeroL45 : zeroL Try.prog 45 = some [.slice none 0 0] := by kernel_rfl
@[simp] theorem zeroL46 : zeroL Try.prog 46 = some [.int .i64 0, .slice none 0 0] := by kernel_rfl
@[simp] theorem zeroL47 : zeroL Try.prog 47 = some [.int .i64 0, .slice none 0 0] := by kernel_rfl
@[simp] theorem zeroL48 : zeroL Try.prog 48 = some [.int .i64 0, .int .i64 0, .slice none 0 0] := by kernel_rfl
@[simp] theorem zeroL49 : zeroL Try.prog 49 = some [.int .i64 0, .int .i64 0, .slice none 0 0] := by kernel_rfl
@[simp] theorem zeroL53 : zeroL Try.prog 53 = some [.int .i64 0, .int .i64 0, .int .i64 0] := by kernel_rfl
@[simp] theorem zeroL54 : zeroL Try.prog 54 = some [.int .i64 0, .int .i64 0, .int .i64 0] := by kernel_rfl
@[simp] theorem zeroL57 : zeroL Try.prog 57 = some [.int .i64 0, .int .i64 0, .bool false, .bool false] := by kernel_rfl
@[simp] theorem zeroL58 : zeroL Try.prog 58 = some [.int .i64 0, .int .i64 0, .bool false, .bool false] := by kernel_rfl
@[simp] theorem zeroL61 : zeroL Try.prog 61 = some [.int .i64 0, .int .i64 0] := by kernel_rfl
@[simp] theorem zeroL62 : zeroL Try.prog 62 = some [.int .i64 0, .int .i64 0] := by kernel_rfl
@[simp] theorem zeroL69 : zeroL Try.prog 69 = some [.pointer none] := by kernel_rfl
@[simp] theorem zeroL79 : zeroL Try.prog 79 = some [.slice none 0 0, .int .i64 0] := by kernel_rfl
@[simp] theorem zeroL80 : zeroL Try.prog 80 = some [.slice none 0 0, .int .i64 0] := by kernel_rfl
@[simp] theorem zeroL83 : zeroL Try.prog 83 = some [.slice none 0 0] := by kernel_rfl
@[simp] theorem zeroL85 : zeroL Try.prog 85 = some [.pointer none] := by kernel_rfl
@[simp] theorem zeroL86 : zeroL Try.prog 86 = some [.pointer none, .slice none 0 0, .int .i64 0, .int .i64 0, .bool false, .bool false] := by kernel_rfl
@[simp] theorem zeroL87 : zeroL Try.prog 87 = some [.pointer none, .slice none 0 0, .int .i64 0, .int .i64 0, .bool false, .bool false] := by kernel_rfl
@[simp] theorem zeroL92 : zeroL Try.prog 92 = some [.int .i64 0, .int .i64 0, .int .i64 0] := by kernel_rfl
@[simp] theorem zeroL105 : zeroL Try.prog 105 = some [.int .i64 0, .int .i64 0, .int .i64 0, .int .i64 0, .int .i64 0, .int .i64 0, .int .i64 0, .int .i64 0, .int .i64 0, .int .i64 0] := by kernel_rfl
@[simp] theorem zeroL106 : zeroL Try.prog 106 = some [.int .i64 0, .int .i64 0, .int .i64 0, .int .i64 0, .int .i64 0, .int .i64 0, .int .i64 0, .int .i64 0, .int .i64 0, .int .i64 0, .int .i64 0, .int .i64 0, .int .i64 0, .int .i64 0, .int .i64 0, .int .i64 0, .int .i64 0] := by kernel_rfl
@[simp] theorem zeroL109 : zeroL Try.prog 109 = some [.pointer none, .pointer none, .pointer none, .string ByteArray.empty] := by kernel_rfl
@[simp] theorem zeroL110 : zeroL Try.prog 110 = some [.pointer none, .pointer none, .pointer none, .string ByteArray.empty] := by kernel_rfl
@[simp] theorem zeroL111 : zeroL Try.prog 111 = some [] := by kernel_rfl
@[simp] theorem zeroL112 : zeroL Try.prog 112 = some [] := by kernel_rfl
@[simp] theorem zeroL113 : zeroL Try.prog 113 = some [] := by kernel_rfl
@[simp] theorem zeroL115 : zeroL Try.prog 115 = some [.int .u32 0] := by kernel_rfl
@[simp] theorem zeroL116 : zeroL Try.prog 116 = some [.int .u8 0] := by kernel_rfl
@[simp] theorem zeroL117 : zeroL Try.prog 117 = some [.int .u8 0] := by kernel_rfl
@[simp] theorem zeroL119 : zeroL Try.prog 119 = some [.pointer none] := by kernel_rfl
@[simp] theorem zeroL120 : zeroL Try.prog 120 = some [.int .i32 0] := by kernel_rfl
@[simp] theorem zeroL121 : zeroL Try.prog 121 = some [.int .i32 0] := by kernel_rfl
@[simp] theorem zeroL126 : zeroL Try.prog 126 = some [.pointer none] := by kernel_rfl
@[simp] theorem zeroL127 : zeroL Try.prog 127 = some [.int .u64 0] := by kernel_rfl

end Go.Proofs.Ytnnpmopnnamakaa
