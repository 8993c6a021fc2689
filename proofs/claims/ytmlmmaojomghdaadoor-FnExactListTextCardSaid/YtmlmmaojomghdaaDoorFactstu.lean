/-
  Facts on the types of the program: how many cells each has, and its zero value. Printed by a program (mkfacts). Conditions: none.
-/
import Derived.Test.YtmlmmaojomghdaaDoorRows
import Derived.Test.YtmlmmaojomghdaaDoorMtu
import Derived.Test.YtmlmmaojomghdaaDoorSwtu
set_option maxRecDepth 100000
namespace Go.Proofs.YtmlmmaojomghdaaDoor
open Go Go.Sx

theorem hmx : Tryd.prog.follows .mixedOrders = true := by kernel_rfl
@[simp] theorem cellsOf0 : Tryd.prog.cellsOf 0 = 1 := by kernel_rfl
@[simp] theorem cellsOf1 : Tryd.prog.cellsOf 1 = 1 := by kernel_rfl
@[simp] theorem cellsOf2 : Tryd.prog.cellsOf 2 = 1 := by kernel_rfl
@[simp] theorem cellsOf3 : Tryd.prog.cellsOf 3 = 1 := by kernel_rfl
@[simp] theorem cellsOf4 : Tryd.prog.cellsOf 4 = 1 := by kernel_rfl
@[simp] theorem cellsOf5 : Tryd.prog.cellsOf 5 = 1 := by kernel_rfl
@[simp] theorem cellsOf6 : Tryd.prog.cellsOf 6 = 1 := by kernel_rfl
@[simp] theorem cellsOf7 : Tryd.prog.cellsOf 7 = 4 := by kernel_rfl
@[simp] theorem cellsOf8 : Tryd.prog.cellsOf 8 = 4 := by kernel_rfl
@[simp] theorem cellsOf9 : Tryd.prog.cellsOf 9 = 1 := by kernel_rfl
@[simp] theorem cellsOf10 : Tryd.prog.cellsOf 10 = 1 := by kernel_rfl
@[simp] theorem cellsOf11 : Tryd.prog.cellsOf 11 = 1 := by kernel_rfl
@[simp] theorem cellsOf12 : Tryd.prog.cellsOf 12 = 1 := by kernel_rfl
@[simp] theorem cellsOf13 : Tryd.prog.cellsOf 13 = 2 := by kernel_rfl
@[simp] theorem cellsOf14 : Tryd.prog.cellsOf 14 = 2 := by kernel_rfl
@[simp] theorem cellsOf15 : Tryd.prog.cellsOf 15 = 1 := by kernel_rfl
@[simp] theorem cellsOf16 : Tryd.prog.cellsOf 16 = 1 := by kernel_rfl
@[simp] theorem cellsOf17 : Tryd.prog.cellsOf 17 = 1 := by kernel_rfl
@[simp] theorem cellsOf18 : Tryd.prog.cellsOf 18 = 1 := by kernel_rfl
@[simp] theorem cellsOf19 : Tryd.prog.cellsOf 19 = 1 := by kernel_rfl
@[simp] theorem cellsOf20 : Tryd.prog.cellsOf 20 = 1 := by kernel_rfl
@[simp] theorem cellsOf21 : Tryd.prog.cellsOf 21 = 1 := by kernel_rfl
@[simp] theorem cellsOf22 : Tryd.prog.cellsOf 22 = 1 := by kernel_rfl
@[simp] theorem cellsOf23 : Tryd.prog.cellsOf 23 = 1 := by kernel_rfl
@[simp] theorem cellsOf24 : Tryd.prog.cellsOf 24 = 1 := by kernel_rfl
@[simp] theorem cellsOf25 : Tryd.prog.cellsOf 25 = 1 := by kernel_rfl
@[simp] theorem cellsOf26 : Tryd.prog.cellsOf 26 = 1 := by kernel_rfl
@[simp] theorem cellsOf27 : Tryd.prog.cellsOf 27 = 2 := by kernel_rfl
@[simp] theorem cellsOf28 : Tryd.prog.cellsOf 28 = 2 := by kernel_rfl
@[simp] theorem cellsOf29 : Tryd.prog.cellsOf 29 = 32 := by kernel_rfl
@[simp] theorem cellsOf30 : Tryd.prog.cellsOf 30 = 3 := by kernel_rfl
@[simp] theorem cellsOf31 : Tryd.prog.cellsOf 31 = 3 := by kernel_rfl
@[simp] theorem cellsOf32 : Tryd.prog.cellsOf 32 = 48 := by kernel_rfl
@[simp] theorem cellsOf33 : Tryd.prog.cellsOf 33 = 1 := by kernel_rfl
@[simp] theorem cellsOf34 : Tryd.prog.cellsOf 34 = 32 := by kernel_rfl
@[simp] theorem cellsOf35 : Tryd.prog.cellsOf 35 = 1 := by kernel_rfl
@[simp] theorem cellsOf36 : Tryd.prog.cellsOf 36 = 16 := by kernel_rfl
@[simp] theorem cellsOf37 : Tryd.prog.cellsOf 37 = 136 := by kernel_rfl
@[simp] theorem cellsOf38 : Tryd.prog.cellsOf 38 = 136 := by kernel_rfl
@[simp] theorem cellsOf39 : Tryd.prog.cellsOf 39 = 1 := by kernel_rfl
@[simp] theorem cellsOf40 : Tryd.prog.cellsOf 40 = 2 := by kernel_rfl
@[simp] theorem cellsOf41 : Tryd.prog.cellsOf 41 = 32 := by kernel_rfl
@[simp] theorem cellsOf42 : Tryd.prog.cellsOf 42 = 3 := by kernel_rfl
@[simp] theorem cellsOf43 : Tryd.prog.cellsOf 43 = 48 := by kernel_rfl
@[simp] theorem cellsOf44 : Tryd.prog.cellsOf 44 = 136 := by kernel_rfl
@[simp] theorem cellsOf45 : Tryd.prog.cellsOf 45 = 136 := by kernel_rfl
@[simp] theorem cellsOf46 : Tryd.prog.cellsOf 46 = 1 := by kernel_rfl
@[simp] theorem cellsOf47 : Tryd.prog.cellsOf 47 = 1 := by kernel_rfl
@[simp] theorem cellsOf48 : Tryd.prog.cellsOf 48 = 1 := by kernel_rfl
@[simp] theorem cellsOf49 : Tryd.prog.cellsOf 49 = 1 := by kernel_rfl
@[simp] theorem cellsOf50 : Tryd.prog.cellsOf 50 = 1 := by kernel_rfl
@[simp] theorem cellsOf51 : Tryd.prog.cellsOf 51 = 1 := by kernel_rfl
@[simp] theorem cellsOf52 : Tryd.prog.cellsOf 52 = 1 := by kernel_rfl
@[simp] theorem cellsOf53 : Tryd.prog.cellsOf 53 = 1 := by kernel_rfl
@[simp] theorem cellsOf54 : Tryd.prog.cellsOf 54 = 2 := by kernel_rfl
@[simp] theorem cellsOf55 : Tryd.prog.cellsOf 55 = 2 := by kernel_rfl
@[simp] theorem cellsOf56 : Tryd.prog.cellsOf 56 = 3 := by kernel_rfl
@[simp] theorem cellsOf57 : Tryd.prog.cellsOf 57 = 3 := by kernel_rfl
@[simp] theorem cellsOf58 : Tryd.prog.cellsOf 58 = 1 := by kernel_rfl
@[simp] theorem cellsOf59 : Tryd.prog.cellsOf 59 = 1 := by kernel_rfl
@[simp] theorem cellsOf60 : Tryd.prog.cellsOf 60 = 1 := by kernel_rfl
@[simp] theorem cellsOf61 : Tryd.prog.cellsOf 61 = 2 := by kernel_rfl
@[simp] theorem cellsOf62 : Tryd.prog.cellsOf 62 = 2 := by kernel_rfl
@[simp] theorem cellsOf63 : Tryd.prog.cellsOf 63 = 3 := by kernel_rfl
@[simp] theorem cellsOf64 : Tryd.prog.cellsOf 64 = 3 := by kernel_rfl
@[simp] theorem cellsOf65 : Tryd.prog.cellsOf 65 = 1 := by kernel_rfl
@[simp] theorem cellsOf66 : Tryd.prog.cellsOf 66 = 1 := by kernel_rfl
@[simp] theorem cellsOf67 : Tryd.prog.cellsOf 67 = 1 := by kernel_rfl
@[simp] theorem cellsOf68 : Tryd.prog.cellsOf 68 = 1 := by kernel_rfl
@[simp] theorem cellsOf69 : Tryd.prog.cellsOf 69 = 1 := by kernel_rfl
@[simp] theorem cellsOf70 : Tryd.prog.cellsOf 70 = 1 := by kernel_rfl
@[simp] theorem cellsOf71 : Tryd.prog.cellsOf 71 = 1 := by kernel_rfl
@[simp] theorem cellsOf72 : Tryd.prog.cellsOf 72 = 1 := by kernel_rfl
@[simp] theorem cellsOf73 : Tryd.prog.cellsOf 73 = 1 := by kernel_rfl
@[simp] theorem cellsOf74 : Tryd.prog.cellsOf 74 = 1 := by kernel_rfl
@[simp] theorem cellsOf75 : Tryd.prog.cellsOf 75 = 1 := by kernel_rfl
@[simp] theorem cellsOf76 : Tryd.prog.cellsOf 76 = 11 := by kernel_rfl
@[simp] theorem cellsOf77 : Tryd.prog.cellsOf 77 = 1 := by kernel_rfl
@[simp] theorem cellsOf78 : Tryd.prog.cellsOf 78 = 1 := by kernel_rfl
@[simp] theorem cellsOf79 : Tryd.prog.cellsOf 79 = 1 := by kernel_rfl
@[simp] theorem cellsOf80 : Tryd.prog.cellsOf 80 = 1 := by kernel_rfl
@[simp] theorem cellsOf81 : Tryd.prog.cellsOf 81 = 1 := by kernel_rfl
@[simp] theorem cellsOf82 : Tryd.prog.cellsOf 82 = 1 := by kernel_rfl
@[simp] theorem cellsOf83 : Tryd.prog.cellsOf 83 = 1 := by kernel_rfl
@[simp] theorem cellsOf84 : Tryd.prog.cellsOf 84 = 1 := by kernel_rfl
@[simp] theorem cellsOf85 : Tryd.prog.cellsOf 85 = 1 := by kernel_rfl
@[simp] theorem cellsOf86 : Tryd.prog.cellsOf 86 = 3 := by kernel_rfl
@[simp] theorem cellsOf87 : Tryd.prog.cellsOf 87 = 3 := by kernel_rfl
@[simp] theorem cellsOf88 : Tryd.prog.cellsOf 88 = 1 := by kernel_rfl
@[simp] theorem cellsOf89 : Tryd.prog.cellsOf 89 = 1 := by kernel_rfl
@[simp] theorem cellsOf90 : Tryd.prog.cellsOf 90 = 1 := by kernel_rfl
@[simp] theorem cellsOf91 : Tryd.prog.cellsOf 91 = 1 := by kernel_rfl
@[simp] theorem cellsOf92 : Tryd.prog.cellsOf 92 = 1 := by kernel_rfl
@[simp] theorem cellsOf93 : Tryd.prog.cellsOf 93 = 1 := by kernel_rfl
@[simp] theorem cellsOf94 : Tryd.prog.cellsOf 94 = 1 := by kernel_rfl
@[simp] theorem cellsOf95 : Tryd.prog.cellsOf 95 = 1 := by kernel_rfl
@[simp] theorem cellsOf96 : Tryd.prog.cellsOf 96 = 1 := by kernel_rfl
@[simp] theorem cellsOf97 : Tryd.prog.cellsOf 97 = 1 := by kernel_rfl
@[simp] theorem cellsOf98 : Tryd.prog.cellsOf 98 = 1 := by kernel_rfl
@[simp] theorem cellsOf99 : Tryd.prog.cellsOf 99 = 1 := by kernel_rfl
@[simp] theorem cellsOf100 : Tryd.prog.cellsOf 100 = 1 := by kernel_rfl
@[simp] theorem cellsOf101 : Tryd.prog.cellsOf 101 = 1 := by kernel_rfl
@[simp] theorem cellsOf102 : Tryd.prog.cellsOf 102 = 1 := by kernel_rfl
@[simp] theorem cellsOf103 : Tryd.prog.cellsOf 103 = 1 := by kernel_rfl
@[simp] theorem cellsOf104 : Tryd.prog.cellsOf 104 = 1 := by kernel_rfl
@[simp] theorem cellsOf105 : Tryd.prog.cellsOf 105 = 1 := by kernel_rfl
@[simp] theorem cellsOf106 : Tryd.prog.cellsOf 106 = 1 := by kernel_rfl
@[simp] theorem cellsOf107 : Tryd.prog.cellsOf 107 = 10 := by kernel_rfl
@[simp] theorem cellsOf108 : Tryd.prog.cellsOf 108 = 1 := by kernel_rfl
@[simp] theorem cellsOf109 : Tryd.prog.cellsOf 109 = 1 := by kernel_rfl
@[simp] theorem cellsOf110 : Tryd.prog.cellsOf 110 = 1 := by kernel_rfl
@[simp] theorem cellsOf111 : Tryd.prog.cellsOf 111 = 1 := by kernel_rfl
@[simp] theorem cellsOf112 : Tryd.prog.cellsOf 112 = 4 := by kernel_rfl
@[simp] theorem cellsOf113 : Tryd.prog.cellsOf 113 = 1 := by kernel_rfl
@[simp] theorem cellsOf114 : Tryd.prog.cellsOf 114 = 1 := by kernel_rfl
@[simp] theorem cellsOf115 : Tryd.prog.cellsOf 115 = 2 := by kernel_rfl
@[simp] theorem cellsOf116 : Tryd.prog.cellsOf 116 = 2 := by kernel_rfl
@[simp] theorem cellsOf117 : Tryd.prog.cellsOf 117 = 1 := by kernel_rfl
@[simp] theorem cellsOf118 : Tryd.prog.cellsOf 118 = 1 := by kernel_rfl
@[simp] theorem cellsOf119 : Tryd.prog.cellsOf 119 = 1 := by kernel_rfl
@[simp] theorem cellsOf120 : Tryd.prog.cellsOf 120 = 1 := by kernel_rfl
@[simp] theorem cellsOf121 : Tryd.prog.cellsOf 121 = 1 := by kernel_rfl
@[simp] theorem cellsOf122 : Tryd.prog.cellsOf 122 = 1 := by kernel_rfl
@[simp] theorem cellsOf123 : Tryd.prog.cellsOf 123 = 2 := by kernel_rfl
@[simp] theorem cellsOf124 : Tryd.prog.cellsOf 124 = 2 := by kernel_rfl
@[simp] theorem cellsOf125 : Tryd.prog.cellsOf 125 = 1 := by kernel_rfl
@[simp] theorem cellsOf126 : Tryd.prog.cellsOf 126 = 1 := by kernel_rfl
@[simp] theorem cellsOf127 : Tryd.prog.cellsOf 127 = 1 := by kernel_rfl
@[simp] theorem cellsOf128 : Tryd.prog.cellsOf 128 = 1 := by kernel_rfl
@[simp] theorem cellsOf129 : Tryd.prog.cellsOf 129 = 1 := by kernel_rfl
@[simp] theorem cellsOf130 : Tryd.prog.cellsOf 130 = 1 := by kernel_rfl
@[simp] theorem cellsOf131 : Tryd.prog.cellsOf 131 = 1 := by kernel_rfl
@[simp] theorem cellsOf132 : Tryd.prog.cellsOf 132 = 1 := by kernel_rfl
@[simp] theorem cellsOf133 : Tryd.prog.cellsOf 133 = 1 := by kernel_rfl
@[simp] theorem cellsOf134 : Tryd.prog.cellsOf 134 = 1 := by kernel_rfl
@[simp] theorem cellsOf135 : Tryd.prog.cellsOf 135 = 1 := by kernel_rfl
@[simp] theorem cellsOf136 : Tryd.prog.cellsOf 136 = 1 := by kernel_rfl
@[simp] theorem cellsOf137 : Tryd.prog.cellsOf 137 = 1 := by kernel_rfl
@[simp] theorem cellsOf138 : Tryd.prog.cellsOf 138 = 1 := by kernel_rfl
@[simp] theorem cellsOf139 : Tryd.prog.cellsOf 139 = 24 := by kernel_rfl
@[simp] theorem cellsOf140 : Tryd.prog.cellsOf 140 = 1 := by kernel_rfl
@[simp] theorem cellsOf141 : Tryd.prog.cellsOf 141 = 1 := by kernel_rfl
@[simp] theorem cellsOf142 : Tryd.prog.cellsOf 142 = 1 := by kernel_rfl
@[simp] theorem cellsOf143 : Tryd.prog.cellsOf 143 = 1 := by kernel_rfl
@[simp] theorem cellsOf144 : Tryd.prog.cellsOf 144 = 1 := by kernel_rfl
@[simp] theorem cellsOf145 : Tryd.prog.cellsOf 145 = 1 := by kernel_rfl
@[simp] theorem cellsOf146 : Tryd.prog.cellsOf 146 = 1 := by kernel_rfl
@[simp] theorem cellsOf147 : Tryd.prog.cellsOf 147 = 1 := by kernel_rfl
@[simp] theorem cellsOf148 : Tryd.prog.cellsOf 148 = 1 := by kernel_rfl
@[simp] theorem cellsOf149 : Tryd.prog.cellsOf 149 = 1 := by kernel_rfl
@[simp] theorem cellsOf150 : Tryd.prog.cellsOf 150 = 3 := by kernel_rfl
@[simp] theorem cellsOf151 : Tryd.prog.cellsOf 151 = 1 := by kernel_rfl
@[simp] theorem cellsOf152 : Tryd.prog.cellsOf 152 = 1 := by kernel_rfl
@[simp] theorem cellsOf153 : Tryd.prog.cellsOf 153 = 1 := by kernel_rfl
@[simp] theorem cellsOf154 : Tryd.prog.cellsOf 154 = 17 := by kernel_rfl
@[simp] theorem cellsOf155 : Tryd.prog.cellsOf 155 = 6 := by kernel_rfl
@[simp] theorem cellsOf156 : Tryd.prog.cellsOf 156 = 1 := by kernel_rfl
@[simp] theorem cellsOf157 : Tryd.prog.cellsOf 157 = 1 := by kernel_rfl
@[simp] theorem cellsOf158 : Tryd.prog.cellsOf 158 = 20 := by kernel_rfl
@[simp] theorem cellsOf159 : Tryd.prog.cellsOf 159 = 65 := by kernel_rfl
@[simp] theorem cellsOf160 : Tryd.prog.cellsOf 160 = 1 := by kernel_rfl
@[simp] theorem cellsOf161 : Tryd.prog.cellsOf 161 = 1 := by kernel_rfl
@[simp] theorem cellsOf162 : Tryd.prog.cellsOf 162 = 1 := by kernel_rfl
@[simp] theorem cellsOf163 : Tryd.prog.cellsOf 163 = 1 := by kernel_rfl
@[simp] theorem cellsOf164 : Tryd.prog.cellsOf 164 = 1 := by kernel_rfl
@[simp] theorem cellsOf165 : Tryd.prog.cellsOf 165 = 1 := by kernel_rfl
@[simp] theorem cellsOf166 : Tryd.prog.cellsOf 166 = 1 := by kernel_rfl
@[simp] theorem cellsOf167 : Tryd.prog.cellsOf 167 = 17 := by kernel_rfl
@[simp] theorem cellsOf168 : Tryd.prog.cellsOf 168 = 1 := by kernel_rfl
@[simp] theorem cellsOf169 : Tryd.prog.cellsOf 169 = 32 := by kernel_rfl
@[simp] theorem cellsOf170 : Tryd.prog.cellsOf 170 = 64 := by kernel_rfl
@[simp] theorem cellsOf171 : Tryd.prog.cellsOf 171 = 4 := by kernel_rfl
@[simp] theorem cellsOf172 : Tryd.prog.cellsOf 172 = 4 := by kernel_rfl
@[simp] theorem cellsOf173 : Tryd.prog.cellsOf 173 = 0 := by kernel_rfl
@[simp] theorem cellsOf174 : Tryd.prog.cellsOf 174 = 0 := by kernel_rfl
@[simp] theorem cellsOf175 : Tryd.prog.cellsOf 175 = 0 := by kernel_rfl
@[simp] theorem cellsOf176 : Tryd.prog.cellsOf 176 = 1 := by kernel_rfl
@[simp] theorem cellsOf177 : Tryd.prog.cellsOf 177 = 1 := by kernel_rfl
@[simp] theorem cellsOf178 : Tryd.prog.cellsOf 178 = 1 := by kernel_rfl
@[simp] theorem cellsOf179 : Tryd.prog.cellsOf 179 = 1 := by kernel_rfl
@[simp] theorem cellsOf180 : Tryd.prog.cellsOf 180 = 1 := by kernel_rfl
@[simp] theorem cellsOf181 : Tryd.prog.cellsOf 181 = 11 := by kernel_rfl
@[simp] theorem cellsOf182 : Tryd.prog.cellsOf 182 = 11 := by kernel_rfl
@[simp] theorem cellsOf183 : Tryd.prog.cellsOf 183 = 1 := by kernel_rfl
@[simp] theorem bytesOf0 : bytesOf Tryd.prog 0 = 0 := by kernel_rfl
@[simp] theorem bytesOf1 : bytesOf Tryd.prog 1 = 8 := by kernel_rfl
@[simp] theorem bytesOf2 : bytesOf Tryd.prog 2 = 8 := by kernel_rfl
@[simp] theorem bytesOf3 : bytesOf Tryd.prog 3 = 8 := by kernel_rfl
@[simp] theorem bytesOf4 : bytesOf Tryd.prog 4 = 1 := by kernel_rfl
@[simp] theorem bytesOf5 : bytesOf Tryd.prog 5 = 1 := by kernel_rfl
@[simp] theorem bytesOf6 : bytesOf Tryd.prog 6 = 1 := by kernel_rfl
@[simp] theorem bytesOf7 : bytesOf Tryd.prog 7 = 24 := by kernel_rfl
@[simp] theorem bytesOf8 : bytesOf Tryd.prog 8 = 24 := by kernel_rfl
@[simp] theorem bytesOf9 : bytesOf Tryd.prog 9 = 16 := by kernel_rfl
@[simp] theorem bytesOf10 : bytesOf Tryd.prog 10 = 16 := by kernel_rfl
@[simp] theorem bytesOf11 : bytesOf Tryd.prog 11 = 16 := by kernel_rfl
@[simp] theorem bytesOf12 : bytesOf Tryd.prog 12 = 8 := by kernel_rfl
@[simp] theorem bytesOf13 : bytesOf Tryd.prog 13 = 24 := by kernel_rfl
@[simp] theorem bytesOf14 : bytesOf Tryd.prog 14 = 24 := by kernel_rfl
@[simp] theorem bytesOf15 : bytesOf Tryd.prog 15 = 8 := by kernel_rfl
@[simp] theorem bytesOf16 : bytesOf Tryd.prog 16 = 8 := by kernel_rfl
@[simp] theorem bytesOf17 : bytesOf Tryd.prog 17 = 8 := by kernel_rfl
@[simp] theorem bytesOf18 : bytesOf Tryd.prog 18 = 8 := by kernel_rfl
@[simp] theorem bytesOf19 : bytesOf Tryd.prog 19 = 8 := by kernel_rfl
@[simp] theorem bytesOf20 : bytesOf Tryd.prog 20 = 16 := by kernel_rfl
@[simp] theorem bytesOf21 : bytesOf Tryd.prog 21 = 4 := by kernel_rfl
@[simp] theorem bytesOf22 : bytesOf Tryd.prog 22 = 8 := by kernel_rfl
@[simp] theorem bytesOf23 : bytesOf Tryd.prog 23 = 8 := by kernel_rfl
@[simp] theorem bytesOf24 : bytesOf Tryd.prog 24 = 4 := by kernel_rfl
@[simp] theorem bytesOf25 : bytesOf Tryd.prog 25 = 8 := by kernel_rfl
@[simp] theorem bytesOf26 : bytesOf Tryd.prog 26 = 2 := by kernel_rfl
@[simp] theorem bytesOf27 : bytesOf Tryd.prog 27 = 4 := by kernel_rfl
@[simp] theorem bytesOf28 : bytesOf Tryd.prog 28 = 4 := by kernel_rfl
@[simp] theorem bytesOf29 : bytesOf Tryd.prog 29 = 64 := by kernel_rfl
@[simp] theorem bytesOf30 : bytesOf Tryd.prog 30 = 4 := by kernel_rfl
@[simp] theorem bytesOf31 : bytesOf Tryd.prog 31 = 4 := by kernel_rfl
@[simp] theorem bytesOf32 : bytesOf Tryd.prog 32 = 64 := by kernel_rfl
@[simp] theorem bytesOf33 : bytesOf Tryd.prog 33 = 2 := by kernel_rfl
@[simp] theorem bytesOf34 : bytesOf Tryd.prog 34 = 64 := by kernel_rfl
@[simp] theorem bytesOf35 : bytesOf Tryd.prog 35 = 8 := by kernel_rfl
@[simp] theorem bytesOf36 : bytesOf Tryd.prog 36 = 128 := by kernel_rfl
@[simp] theorem bytesOf37 : bytesOf Tryd.prog 37 = 352 := by kernel_rfl
@[simp] theorem bytesOf38 : bytesOf Tryd.prog 38 = 352 := by kernel_rfl
@[simp] theorem bytesOf39 : bytesOf Tryd.prog 39 = 8 := by kernel_rfl
@[simp] theorem bytesOf40 : bytesOf Tryd.prog 40 = 4 := by kernel_rfl
@[simp] theorem bytesOf41 : bytesOf Tryd.prog 41 = 64 := by kernel_rfl
@[simp] theorem bytesOf42 : bytesOf Tryd.prog 42 = 4 := by kernel_rfl
@[simp] theorem bytesOf43 : bytesOf Tryd.prog 43 = 64 := by kernel_rfl
@[simp] theorem bytesOf44 : bytesOf Tryd.prog 44 = 352 := by kernel_rfl
@[simp] theorem bytesOf45 : bytesOf Tryd.prog 45 = 352 := by kernel_rfl
@[simp] theorem bytesOf46 : bytesOf Tryd.prog 46 = 8 := by kernel_rfl
@[simp] theorem bytesOf47 : bytesOf Tryd.prog 47 = 8 := by kernel_rfl
@[simp] theorem bytesOf48 : bytesOf Tryd.prog 48 = 24 := by kernel_rfl
@[simp] theorem bytesOf49 : bytesOf Tryd.prog 49 = 0 := by kernel_rfl
@[simp] theorem bytesOf50 : bytesOf Tryd.prog 50 = 8 := by kernel_rfl
@[simp] theorem bytesOf51 : bytesOf Tryd.prog 51 = 8 := by kernel_rfl
@[simp] theorem bytesOf52 : bytesOf Tryd.prog 52 = 8 := by kernel_rfl
@[simp] theorem bytesOf53 : bytesOf Tryd.prog 53 = 24 := by kernel_rfl
@[simp] theorem bytesOf54 : bytesOf Tryd.prog 54 = 32 := by kernel_rfl
@[simp] theorem bytesOf55 : bytesOf Tryd.prog 55 = 32 := by kernel_rfl
@[simp] theorem bytesOf56 : bytesOf Tryd.prog 56 = 40 := by kernel_rfl
@[simp] theorem bytesOf57 : bytesOf Tryd.prog 57 = 40 := by kernel_rfl
@[simp] theorem bytesOf58 : bytesOf Tryd.prog 58 = 8 := by kernel_rfl
@[simp] theorem bytesOf59 : bytesOf Tryd.prog 59 = 8 := by kernel_rfl
@[simp] theorem bytesOf60 : bytesOf Tryd.prog 60 = 24 := by kernel_rfl
@[simp] theorem bytesOf61 : bytesOf Tryd.prog 61 = 32 := by kernel_rfl
@[simp] theorem bytesOf62 : bytesOf Tryd.prog 62 = 32 := by kernel_rfl
@[simp] theorem bytesOf63 : bytesOf Tryd.prog 63 = 40 := by kernel_rfl
@[simp] theorem bytesOf64 : bytesOf Tryd.prog 64 = 40 := by kernel_rfl
@[simp] theorem bytesOf65 : bytesOf Tryd.prog 65 = 8 := by kernel_rfl
@[simp] theorem bytesOf66 : bytesOf Tryd.prog 66 = 8 := by kernel_rfl
@[simp] theorem bytesOf67 : bytesOf Tryd.prog 67 = 8 := by kernel_rfl
@[simp] theorem bytesOf68 : bytesOf Tryd.prog 68 = 24 := by kernel_rfl
@[simp] theorem bytesOf69 : bytesOf Tryd.prog 69 = 8 := by kernel_rfl
@[simp] theorem bytesOf70 : bytesOf Tryd.prog 70 = 8 := by kernel_rfl
@[simp] theorem bytesOf71 : bytesOf Tryd.prog 71 = 24 := by kernel_rfl
@[simp] theorem bytesOf72 : bytesOf Tryd.prog 72 = 8 := by kernel_rfl
@[simp] theorem bytesOf73 : bytesOf Tryd.prog 73 = 8 := by kernel_rfl
@[simp] theorem bytesOf74 : bytesOf Tryd.prog 74 = 8 := by kernel_rfl
@[simp] theorem bytesOf75 : bytesOf Tryd.prog 75 = 24 := by kernel_rfl
@[simp] theorem bytesOf76 : bytesOf Tryd.prog 76 = 176 := by kernel_rfl
@[simp] theorem bytesOf77 : bytesOf Tryd.prog 77 = 8 := by kernel_rfl
@[simp] theorem bytesOf78 : bytesOf Tryd.prog 78 = 8 := by kernel_rfl
@[simp] theorem bytesOf79 : bytesOf Tryd.prog 79 = 8 := by kernel_rfl
@[simp] theorem bytesOf80 : bytesOf Tryd.prog 80 = 8 := by kernel_rfl
@[simp] theorem bytesOf81 : bytesOf Tryd.prog 81 = 8 := by kernel_rfl
@[simp] theorem bytesOf82 : bytesOf Tryd.prog 82 = 8 := by kernel_rfl
@[simp] theorem bytesOf83 : bytesOf Tryd.prog 83 = 8 := by kernel_rfl
@[simp] theorem bytesOf84 : bytesOf Tryd.prog 84 = 8 := by kernel_rfl
@[simp] theorem bytesOf85 : bytesOf Tryd.prog 85 = 8 := by kernel_rfl
@[simp] theorem bytesOf86 : bytesOf Tryd.prog 86 = 24 := by kernel_rfl
@[simp] theorem bytesOf87 : bytesOf Tryd.prog 87 = 24 := by kernel_rfl
@[simp] theorem bytesOf88 : bytesOf Tryd.prog 88 = 8 := by kernel_rfl
@[simp] theorem bytesOf89 : bytesOf Tryd.prog 89 = 8 := by kernel_rfl
@[simp] theorem bytesOf90 : bytesOf Tryd.prog 90 = 8 := by kernel_rfl
@[simp] theorem bytesOf91 : bytesOf Tryd.prog 91 = 8 := by kernel_rfl
@[simp] theorem bytesOf92 : bytesOf Tryd.prog 92 = 8 := by kernel_rfl
@[simp] theorem bytesOf93 : bytesOf Tryd.prog 93 = 8 := by kernel_rfl
@[simp] theorem bytesOf94 : bytesOf Tryd.prog 94 = 8 := by kernel_rfl
@[simp] theorem bytesOf95 : bytesOf Tryd.prog 95 = 8 := by kernel_rfl
@[simp] theorem bytesOf96 : bytesOf Tryd.prog 96 = 8 := by kernel_rfl
@[simp] theorem bytesOf97 : bytesOf Tryd.prog 97 = 8 := by kernel_rfl
@[simp] theorem bytesOf98 : bytesOf Tryd.prog 98 = 8 := by kernel_rfl
@[simp] theorem bytesOf99 : bytesOf Tryd.prog 99 = 8 := by kernel_rfl
@[simp] theorem bytesOf100 : bytesOf Tryd.prog 100 = 8 := by kernel_rfl
@[simp] theorem bytesOf101 : bytesOf Tryd.prog 101 = 8 := by kernel_rfl
@[simp] theorem bytesOf102 : bytesOf Tryd.prog 102 = 8 := by kernel_rfl
@[simp] theorem bytesOf103 : bytesOf Tryd.prog 103 = 8 := by kernel_rfl
@[simp] theorem bytesOf104 : bytesOf Tryd.prog 104 = 8 := by kernel_rfl
@[simp] theorem bytesOf105 : bytesOf Tryd.prog 105 = 8 := by kernel_rfl
@[simp] theorem bytesOf106 : bytesOf Tryd.prog 106 = 8 := by kernel_rfl
@[simp] theorem bytesOf107 : bytesOf Tryd.prog 107 = 80 := by kernel_rfl
@[simp] theorem bytesOf108 : bytesOf Tryd.prog 108 = 8 := by kernel_rfl
@[simp] theorem bytesOf109 : bytesOf Tryd.prog 109 = 8 := by kernel_rfl
@[simp] theorem bytesOf110 : bytesOf Tryd.prog 110 = 8 := by kernel_rfl
@[simp] theorem bytesOf111 : bytesOf Tryd.prog 111 = 8 := by kernel_rfl
@[simp] theorem bytesOf112 : bytesOf Tryd.prog 112 = 64 := by kernel_rfl
@[simp] theorem bytesOf113 : bytesOf Tryd.prog 113 = 8 := by kernel_rfl
@[simp] theorem bytesOf114 : bytesOf Tryd.prog 114 = 8 := by kernel_rfl
@[simp] theorem bytesOf115 : bytesOf Tryd.prog 115 = 32 := by kernel_rfl
@[simp] theorem bytesOf116 : bytesOf Tryd.prog 116 = 32 := by kernel_rfl
@[simp] theorem bytesOf117 : bytesOf Tryd.prog 117 = 8 := by kernel_rfl
@[simp] theorem bytesOf118 : bytesOf Tryd.prog 118 = 16 := by kernel_rfl
@[simp] theorem bytesOf119 : bytesOf Tryd.prog 119 = 16 := by kernel_rfl
@[simp] theorem bytesOf120 : bytesOf Tryd.prog 120 = 0 := by kernel_rfl
@[simp] theorem bytesOf121 : bytesOf Tryd.prog 121 = 8 := by kernel_rfl
@[simp] theorem bytesOf122 : bytesOf Tryd.prog 122 = 8 := by kernel_rfl
@[simp] theorem bytesOf123 : bytesOf Tryd.prog 123 = 32 := by kernel_rfl
@[simp] theorem bytesOf124 : bytesOf Tryd.prog 124 = 32 := by kernel_rfl
@[simp] theorem bytesOf125 : bytesOf Tryd.prog 125 = 8 := by kernel_rfl
@[simp] theorem bytesOf126 : bytesOf Tryd.prog 126 = 8 := by kernel_rfl
@[simp] theorem bytesOf127 : bytesOf Tryd.prog 127 = 24 := by kernel_rfl
@[simp] theorem bytesOf128 : bytesOf Tryd.prog 128 = 8 := by kernel_rfl
@[simp] theorem bytesOf129 : bytesOf Tryd.prog 129 = 8 := by kernel_rfl
@[simp] theorem bytesOf130 : bytesOf Tryd.prog 130 = 8 := by kernel_rfl
@[simp] theorem bytesOf131 : bytesOf Tryd.prog 131 = 8 := by kernel_rfl
@[simp] theorem bytesOf132 : bytesOf Tryd.prog 132 = 8 := by kernel_rfl
@[simp] theorem bytesOf133 : bytesOf Tryd.prog 133 = 8 := by kernel_rfl
@[simp] theorem bytesOf134 : bytesOf Tryd.prog 134 = 8 := by kernel_rfl
@[simp] theorem bytesOf135 : bytesOf Tryd.prog 135 = 8 := by kernel_rfl
@[simp] theorem bytesOf136 : bytesOf Tryd.prog 136 = 8 := by kernel_rfl
@[simp] theorem bytesOf137 : bytesOf Tryd.prog 137 = 8 := by kernel_rfl
@[simp] theorem bytesOf138 : bytesOf Tryd.prog 138 = 8 := by kernel_rfl
@[simp] theorem bytesOf139 : bytesOf Tryd.prog 139 = 24 := by kernel_rfl
@[simp] theorem bytesOf140 : bytesOf Tryd.prog 140 = 8 := by kernel_rfl
@[simp] theorem bytesOf141 : bytesOf Tryd.prog 141 = 8 := by kernel_rfl
@[simp] theorem bytesOf142 : bytesOf Tryd.prog 142 = 0 := by kernel_rfl
@[simp] theorem bytesOf143 : bytesOf Tryd.prog 143 = 8 := by kernel_rfl
@[simp] theorem bytesOf144 : bytesOf Tryd.prog 144 = 8 := by kernel_rfl
@[simp] theorem bytesOf145 : bytesOf Tryd.prog 145 = 8 := by kernel_rfl
@[simp] theorem bytesOf146 : bytesOf Tryd.prog 146 = 8 := by kernel_rfl
@[simp] theorem bytesOf147 : bytesOf Tryd.prog 147 = 8 := by kernel_rfl
@[simp] theorem bytesOf148 : bytesOf Tryd.prog 148 = 8 := by kernel_rfl
@[simp] theorem bytesOf149 : bytesOf Tryd.prog 149 = 8 := by kernel_rfl
@[simp] theorem bytesOf150 : bytesOf Tryd.prog 150 = 24 := by kernel_rfl
@[simp] theorem bytesOf151 : bytesOf Tryd.prog 151 = 8 := by kernel_rfl
@[simp] theorem bytesOf152 : bytesOf Tryd.prog 152 = 8 := by kernel_rfl
@[simp] theorem bytesOf153 : bytesOf Tryd.prog 153 = 8 := by kernel_rfl
@[simp] theorem bytesOf154 : bytesOf Tryd.prog 154 = 272 := by kernel_rfl
@[simp] theorem bytesOf155 : bytesOf Tryd.prog 155 = 96 := by kernel_rfl
@[simp] theorem bytesOf156 : bytesOf Tryd.prog 156 = 8 := by kernel_rfl
@[simp] theorem bytesOf157 : bytesOf Tryd.prog 157 = 8 := by kernel_rfl
@[simp] theorem bytesOf158 : bytesOf Tryd.prog 158 = 160 := by kernel_rfl
@[simp] theorem bytesOf159 : bytesOf Tryd.prog 159 = 65 := by kernel_rfl
@[simp] theorem bytesOf160 : bytesOf Tryd.prog 160 = 8 := by kernel_rfl
@[simp] theorem bytesOf161 : bytesOf Tryd.prog 161 = 8 := by kernel_rfl
@[simp] theorem bytesOf162 : bytesOf Tryd.prog 162 = 8 := by kernel_rfl
@[simp] theorem bytesOf163 : bytesOf Tryd.prog 163 = 8 := by kernel_rfl
@[simp] theorem bytesOf164 : bytesOf Tryd.prog 164 = 8 := by kernel_rfl
@[simp] theorem bytesOf165 : bytesOf Tryd.prog 165 = 8 := by kernel_rfl
@[simp] theorem bytesOf166 : bytesOf Tryd.prog 166 = 8 := by kernel_rfl
@[simp] theorem bytesOf167 : bytesOf Tryd.prog 167 = 136 := by kernel_rfl
@[simp] theorem bytesOf168 : bytesOf Tryd.prog 168 = 8 := by kernel_rfl
@[simp] theorem bytesOf169 : bytesOf Tryd.prog 169 = 32 := by kernel_rfl
@[simp] theorem bytesOf170 : bytesOf Tryd.prog 170 = 64 := by kernel_rfl
@[simp] theorem bytesOf171 : bytesOf Tryd.prog 171 = 40 := by kernel_rfl
@[simp] theorem bytesOf172 : bytesOf Tryd.prog 172 = 40 := by kernel_rfl
@[simp] theorem bytesOf173 : bytesOf Tryd.prog 173 = 0 := by kernel_rfl
@[simp] theorem bytesOf174 : bytesOf Tryd.prog 174 = 0 := by kernel_rfl
@[simp] theorem bytesOf175 : bytesOf Tryd.prog 175 = 0 := by kernel_rfl
@[simp] theorem bytesOf176 : bytesOf Tryd.prog 176 = 1 := by kernel_rfl
@[simp] theorem bytesOf177 : bytesOf Tryd.prog 177 = 1 := by kernel_rfl
@[simp] theorem bytesOf178 : bytesOf Tryd.prog 178 = 8 := by kernel_rfl
@[simp] theorem bytesOf179 : bytesOf Tryd.prog 179 = 4 := by kernel_rfl
@[simp] theorem bytesOf180 : bytesOf Tryd.prog 180 = 4 := by kernel_rfl
@[simp] theorem bytesOf181 : bytesOf Tryd.prog 181 = 48 := by kernel_rfl
@[simp] theorem bytesOf182 : bytesOf Tryd.prog 182 = 48 := by kernel_rfl
@[simp] theorem bytesOf183 : bytesOf Tryd.prog 183 = 8 := by kernel_rfl
@[simp] theorem zeroL2 : zeroL Tryd.prog 2 = some [.int .i64 0] := by kernel_rfl
@[simp] theorem zeroL3 : zeroL Tryd.prog 3 = some [.int .i64 0] := by kernel_rfl
@[simp] theorem zeroL4 : zeroL Tryd.prog 4 = some [.bool false] := by kernel_rfl
@[simp] theorem zeroL5 : zeroL Tryd.prog 5 = some [.int .u8 0] := by kernel_rfl
@[simp] theorem zeroL6 : zeroL Tryd.prog 6 = some [.int .u8 0] := by kernel_rfl
@[simp] theorem zeroL7 : zeroL Tryd.prog 7 = some [.int .i64 0, .int .i64 0, .bool false, .int .u8 0] := by kernel_rfl
@[simp] theorem zeroL8 : zeroL Tryd.prog 8 = some [.int .i64 0, .int .i64 0, .bool false, .int .u8 0] := by kernel_rfl
@[simp] theorem zeroL9 : zeroL Tryd.prog 9 = some [.string ByteArray.empty] := by kernel_rfl
@[simp] theorem zeroL10 : zeroL Tryd.prog 10 = some [.string ByteArray.empty] := by kernel_rfl
@[simp] theorem zeroL11 : zeroL Tryd.prog 11 = some [.string ByteArray.empty] := by kernel_rfl
@[simp] theorem zeroL12 : zeroL Tryd.prog 12 = some [.int .u64 0] := by kernel_rfl
@[simp] theorem zeroL13 : zeroL Tryd.prog 13 = some [.string ByteArray.empty, .int .u64 0] := by kernel_rfl
@[simp] theorem zeroL14 : zeroL Tryd.prog 14 = some [.string ByteArray.empty, .int .u64 0] := by kernel_rfl
@[simp] theorem zeroL15 : zeroL Tryd.prog 15 = some [.pointer none] := by kernel_rfl
@[simp] theorem zeroL16 : zeroL Tryd.prog 16 = some [.pointer none] := by kernel_rfl
@[simp] theorem zeroL17 : zeroL Tryd.prog 17 = some [.pointer none] := by kernel_rfl
@[simp] theorem zeroL18 : zeroL Tryd.prog 18 = some [.pointer none] := by kernel_rfl
@[simp] theorem zeroL19 : zeroL Tryd.prog 19 = some [.pointer none] := by kernel_rfl
@[simp] theorem zeroL20 : zeroL Tryd.prog 20 = some [.nilIface] := by kernel_rfl
@[simp] theorem zeroL21 : zeroL Tryd.prog 21 = some [.int .i32 0] := by kernel_rfl
@[simp] theorem zeroL24 : zeroL Tryd.prog 24 = some [.int .u32 0] := by kernel_rfl
@[simp] theorem zeroL25 : zeroL Tryd.prog 25 = some [.int .u64 0] := by kernel_rfl
@[simp] theorem zeroL26 : zeroL Tryd.prog 26 = some [.int .u16 0] := by kernel_rfl
@[simp] theorem zeroL27 : zeroL Tryd.prog 27 = some [.bool false, .int .u16 0] := by kernel_rfl
@[simp] theorem zeroL28 : zeroL Tryd.prog 28 = some [.bool false, .int .u16 0] := by kernel_rfl
@[simp] theorem zeroL29 : zeroL Tryd.prog 29 = some [.bool false, .int .u16 0, .bool false, .int .u16 0, .bool false, .int .u16 0, .bool false, .int .u16 0, .bool false, .int .u16 0, .bool false, .int .u16 0, .bool false, .int .u16 0, .bool false, .int .u16 0, .bool false, .int .u16 0, .bool false, .int .u16 0, .bool false, .int .u16 0, .bool false, .int .u16 0, .bool false, .int .u16 0, .bool false, .int .u16 0, .bool false, .int .u16 0, .bool false, .int .u16 0] := by kernel_rfl
@[simp] theorem zeroL30 : zeroL Tryd.prog 30 = some [.bool false, .bool false, .int .u16 0] := by kernel_rfl
@[simp] theorem zeroL31 : zeroL Tryd.prog 31 = some [.bool false, .bool false, .int .u16 0] := by kernel_rfl
@[simp] theorem zeroL32 : zeroL Tryd.prog 32 = some [.bool false, .bool false, .int .u16 0, .bool false, .bool false, .int .u16 0, .bool false, .bool false, .int .u16 0, .bool false, .bool false, .int .u16 0, .bool false, .bool false, .int .u16 0, .bool false, .bool false, .int .u16 0, .bool false, .bool false, .int .u16 0, .bool false, .bool false, .int .u16 0, .bool false, .bool false, .int .u16 0, .bool false, .bool false, .int .u16 0, .bool false, .bool false, .int .u16 0, .bool false, .bool false, .int .u16 0, .bool false, .bool false, .int .u16 0, .bool false, .bool false, .int .u16 0, .bool false, .bool false, .int .u16 0, .bool false, .bool false, .int .u16 0] := by kernel_rfl
@[simp] theorem zeroL33 : zeroL Tryd.prog 33 = some [.int .i16 0] := by kernel_rfl
@[simp] theorem zeroL34 : zeroL Tryd.prog 34 = some [.int .i16 0, .int .i16 0, .int .i16 0, .int .i16 0, .int .i16 0, .int .i16 0, .int .i16 0, .int .i16 0, .int .i16 0, .int .i16 0, .int .i16 0, .int .i16 0, .int .i16 0, .int .i16 0, .int .i16 0, .int .i16 0, .int .i16 0, .int .i16 0, .int .i16 0, .int .i16 0, .int .i16 0, .int .i16 0, .int .i16 0, .int .i16 0, .int .i16 0, .int .i16 0, .int .i16 0, .int .i16 0, .int .i16 0, .int .i16 0, .int .i16 0, .int .i16 0] := by kernel_rfl
@[simp] theorem zeroL35 : zeroL Tryd.prog 35 = some [.float .f64 0] := by kernel_rfl
@[simp] theorem zeroL36 : zeroL Tryd.prog 36 = some [.float .f64 0, .float .f64 0, .float .f64 0, .float .f64 0, .float .f64 0, .float .f64 0, .float .f64 0, .float .f64 0, .float .f64 0, .float .f64 0, .float .f64 0, .float .f64 0, .float .f64 0, .float .f64 0, .float .f64 0, .float .f64 0] := by kernel_rfl
@[simp] theorem zeroL40 : zeroL Tryd.prog 40 = some [.bool false, .int .u16 0] := by kernel_rfl
@[simp] theorem zeroL41 : zeroL Tryd.prog 41 = some [.bool false, .int .u16 0, .bool false, .int .u16 0, .bool false, .int .u16 0, .bool false, .int .u16 0, .bool false, .int .u16 0, .bool false, .int .u16 0, .bool false, .int .u16 0, .bool false, .int .u16 0, .bool false, .int .u16 0, .bool false, .int .u16 0, .bool false, .int .u16 0, .bool false, .int .u16 0, .bool false, .int .u16 0, .bool false, .int .u16 0, .bool false, .int .u16 0, .bool false, .int .u16 0] := by kernel_rfl
@[simp] theorem zeroL42 : zeroL Tryd.prog 42 = some [.bool false, .bool false, .int .u16 0] := by kernel_rfl
@[simp] theorem zeroL43 : zeroL Tryd.prog 43 = some [.bool false, .bool false, .int .u16 0, .bool false, .bool false, .int .u16 0, .bool false, .bool false, .int .u16 0, .bool false, .bool false, .int .u16 0, .bool false, .bool false, .int .u16 0, .bool false, .bool false, .int .u16 0, .bool false, .bool false, .int .u16 0, .bool false, .bool false, .int .u16 0, .bool false, .bool false, .int .u16 0, .bool false, .bool false, .int .u16 0, .bool false, .bool false, .int .u16 0, .bool false, .bool false, .int .u16 0, .bool false, .bool false, .int .u16 0, .bool false, .bool false, .int .u16 0, .bool false, .bool false, .int .u16 0, .bool false, .bool false, .int .u16 0] := by kernel_rfl
@[simp] theorem zeroL48 : zeroL Tryd.prog 48 = some [.slice none 0 0] := by kernel_rfl
@[simp] theorem zeroL53 : zeroL Tryd.prog 53 = some [.slice none 0 0] := by kernel_rfl
@[simp] theorem zeroL54 : zeroL Tryd.prog 54 = some [.int .i64 0, .slice none 0 0] := by kernel_rfl
@[simp] theorem zeroL55 : zeroL Tryd.prog 55 = some [.int .i64 0, .slice none 0 0] := by kernel_rfl
@[simp] theorem zeroL56 : zeroL Tryd.prog 56 = some [.int .i64 0, .int .i64 0, .slice none 0 0] := by kernel_rfl
@[simp] theorem zeroL57 : zeroL Tryd.prog 57 = some [.int .i64 0, .int .i64 0, .slice none 0 0] := by kernel_rfl
@[simp] theorem zeroL60 : zeroL Tryd.prog 60 = some [.slice none 0 0] := by kernel_rfl
@[simp] theorem zeroL61 : zeroL Tryd.prog 61 = some [.int .i64 0, .slice none 0 0] := by kernel_rfl
@[simp] theorem zeroL62 : zeroL Tryd.prog 62 = some [.int .i64 0, .slice none 0 0] := by kernel_rfl
@[simp] theorem zeroL63 : zeroL Tryd.prog 63 = some [.int .i64 0, .int .i64 0, .slice none 0 0] := by kernel_rfl
@[simp] theorem zeroL64 : zeroL Tryd.prog 64 = some [.int .i64 0, .int .i64 0, .slice none 0 0] := by kernel_rfl
@[simp] theorem zeroL68 : zeroL Tryd.prog 68 = some [.slice none 0 0] := by kernel_rfl
@[simp] theorem zeroL71 : zeroL Tryd.prog 71 = some [.slice none 0 0] := by kernel_rfl
@[simp] theorem zeroL75 : zeroL Tryd.prog 75 = some [.slice none 0 0] := by kernel_rfl
@[simp] theorem zeroL76 : zeroL Tryd.prog 76 = some [.string ByteArray.empty, .string ByteArray.empty, .string ByteArray.empty, .string ByteArray.empty, .string ByteArray.empty, .string ByteArray.empty, .string ByteArray.empty, .string ByteArray.empty, .string ByteArray.empty, .string ByteArray.empty, .string ByteArray.empty] := by kernel_rfl
@[simp] theorem zeroL86 : zeroL Tryd.prog 86 = some [.int .i64 0, .int .i64 0, .int .i64 0] := by kernel_rfl
@[simp] theorem zeroL87 : zeroL Tryd.prog 87 = some [.int .i64 0, .int .i64 0, .int .i64 0] := by kernel_rfl
@[simp] theorem zeroL93 : zeroL Tryd.prog 93 = some [.pointer none] := by kernel_rfl
@[simp] theorem zeroL107 : zeroL Tryd.prog 107 = some [.int .i64 0, .int .i64 0, .int .i64 0, .int .i64 0, .int .i64 0, .int .i64 0, .int .i64 0, .int .i64 0, .int .i64 0, .int .i64 0] := by kernel_rfl
@[simp] theorem zeroL109 : zeroL Tryd.prog 109 = some [.int .u64 0] := by kernel_rfl
@[simp] theorem zeroL112 : zeroL Tryd.prog 112 = some [.string ByteArray.empty, .string ByteArray.empty, .string ByteArray.empty, .string ByteArray.empty] := by kernel_rfl
@[simp] theorem zeroL114 : zeroL Tryd.prog 114 = some [.pointer none] := by kernel_rfl
@[simp] theorem zeroL115 : zeroL Tryd.prog 115 = some [.pointer none, .slice none 0 0] := by kernel_rfl
@[simp] theorem zeroL116 : zeroL Tryd.prog 116 = some [.pointer none, .slice none 0 0] := by kernel_rfl
@[simp] theorem zeroL118 : zeroL Tryd.prog 118 = some [.nilIface] := by kernel_rfl
@[simp] theorem zeroL119 : zeroL Tryd.prog 119 = some [.nilIface] := by kernel_rfl
@[simp] theorem zeroL123 : zeroL Tryd.prog 123 = some [.slice none 0 0, .int .i64 0] := by kernel_rfl
@[simp] theorem zeroL124 : zeroL Tryd.prog 124 = some [.slice none 0 0, .int .i64 0] := by kernel_rfl
@[simp] theorem zeroL127 : zeroL Tryd.prog 127 = some [.slice none 0 0] := by kernel_rfl
@[simp] theorem zeroL139 : zeroL Tryd.prog 139 = some [.int .u8 0, .int .u8 0, .int .u8 0, .int .u8 0, .int .u8 0, .int .u8 0, .int .u8 0, .int .u8 0, .int .u8 0, .int .u8 0, .int .u8 0, .int .u8 0, .int .u8 0, .int .u8 0, .int .u8 0, .int .u8 0, .int .u8 0, .int .u8 0, .int .u8 0, .int .u8 0, .int .u8 0, .int .u8 0, .int .u8 0, .int .u8 0] := by kernel_rfl
@[simp] theorem zeroL144 : zeroL Tryd.prog 144 = some [.pointer none] := by kernel_rfl
@[simp] theorem zeroL150 : zeroL Tryd.prog 150 = some [.int .i64 0, .int .i64 0, .int .i64 0] := by kernel_rfl
@[simp] theorem zeroL154 : zeroL Tryd.prog 154 = some [.string ByteArray.empty, .string ByteArray.empty, .string ByteArray.empty, .string ByteArray.empty, .string ByteArray.empty, .string ByteArray.empty, .string ByteArray.empty, .string ByteArray.empty, .string ByteArray.empty, .string ByteArray.empty, .string ByteArray.empty, .string ByteArray.empty, .string ByteArray.empty, .string ByteArray.empty, .string ByteArray.empty, .string ByteArray.empty, .string ByteArray.empty] := by kernel_rfl
@[simp] theorem zeroL155 : zeroL Tryd.prog 155 = some [.string ByteArray.empty, .string ByteArray.empty, .string ByteArray.empty, .string ByteArray.empty, .string ByteArray.empty, .string ByteArray.empty] := by kernel_rfl
@[simp] theorem zeroL158 : zeroL Tryd.prog 158 = some [.int .u64 0, .int .u64 0, .int .u64 0, .int .u64 0, .int .u64 0, .int .u64 0, .int .u64 0, .int .u64 0, .int .u64 0, .int .u64 0, .int .u64 0, .int .u64 0, .int .u64 0, .int .u64 0, .int .u64 0, .int .u64 0, .int .u64 0, .int .u64 0, .int .u64 0, .int .u64 0] := by kernel_rfl
@[simp] theorem zeroL161 : zeroL Tryd.prog 161 = some [.pointer none] := by kernel_rfl
@[simp] theorem zeroL167 : zeroL Tryd.prog 167 = some [.int .i64 0, .int .i64 0, .int .i64 0, .int .i64 0, .int .i64 0, .int .i64 0, .int .i64 0, .int .i64 0, .int .i64 0, .int .i64 0, .int .i64 0, .int .i64 0, .int .i64 0, .int .i64 0, .int .i64 0, .int .i64 0, .int .i64 0] := by kernel_rfl
@[simp] theorem zeroL169 : zeroL Tryd.prog 169 = some [.int .u8 0, .int .u8 0, .int .u8 0, .int .u8 0, .int .u8 0, .int .u8 0, .int .u8 0, .int .u8 0, .int .u8 0, .int .u8 0, .int .u8 0, .int .u8 0, .int .u8 0, .int .u8 0, .int .u8 0, .int .u8 0, .int .u8 0, .int .u8 0, .int .u8 0, .int .u8 0, .int .u8 0, .int .u8 0, .int .u8 0, .int .u8 0, .int .u8 0, .int .u8 0, .int .u8 0, .int .u8 0, .int .u8 0, .int .u8 0, .int .u8 0, .int .u8 0] := by kernel_rfl
@[simp] theorem zeroL170 : zeroL Tryd.prog 170 = some [.int .u8 0, .int .u8 0, .int .u8 0, .int .u8 0, .int .u8 0, .int .u8 0, .int .u8 0, .int .u8 0, .int .u8 0, .int .u8 0, .int .u8 0, .int .u8 0, .int .u8 0, .int .u8 0, .int .u8 0, .int .u8 0, .int .u8 0, .int .u8 0, .int .u8 0, .int .u8 0, .int .u8 0, .int .u8 0, .int .u8 0, .int .u8 0, .int .u8 0, .int .u8 0, .int .u8 0, .int .u8 0, .int .u8 0, .int .u8 0, .int .u8 0, .int .u8 0, .int .u8 0, .int .u8 0, .int .u8 0, .int .u8 0, .int .u8 0, .int .u8 0, .int .u8 0, .int .u8 0, .int .u8 0, .int .u8 0, .int .u8 0, .int .u8 0, .int .u8 0, .int .u8 0, .int .u8 0, .int .u8 0, .int .u8 0, .int .u8 0, .int .u8 0, .int .u8 0, .int .u8 0, .int .u8 0, .int .u8 0, .int .u8 0, .int .u8 0, .int .u8 0, .int .u8 0, .int .u8 0, .int .u8 0, .int .u8 0, .int .u8 0, .int .u8 0] := by kernel_rfl
@[simp] theorem zeroL171 : zeroL Tryd.prog 171 = some [.pointer none, .pointer none, .pointer none, .string ByteArray.empty] := by kernel_rfl
@[simp] theorem zeroL172 : zeroL Tryd.prog 172 = some [.pointer none, .pointer none, .pointer none, .string ByteArray.empty] := by kernel_rfl
@[simp] theorem zeroL173 : zeroL Tryd.prog 173 = some [] := by kernel_rfl
@[simp] theorem zeroL174 : zeroL Tryd.prog 174 = some [] := by kernel_rfl
@[simp] theorem zeroL175 : zeroL Tryd.prog 175 = some [] := by kernel_rfl
@[simp] theorem zeroL176 : zeroL Tryd.prog 176 = some [.int .u8 0] := by kernel_rfl
@[simp] theorem zeroL177 : zeroL Tryd.prog 177 = some [.int .u8 0] := by kernel_rfl
@[simp] theorem zeroL179 : zeroL Tryd.prog 179 = some [.int .i32 0] := by kernel_rfl
@[simp] theorem zeroL180 : zeroL Tryd.prog 180 = some [.int .i32 0] := by kernel_rfl
@[simp] theorem zeroL37 : zeroL Tryd.prog 37 = some (cellL zeroM) := by kernel_rfl
@[simp] theorem zeroL38 : zeroL Tryd.prog 38 = some (cellL zeroM) := by kernel_rfl
@[simp] theorem zeroL44 : zeroL Tryd.prog 44 = some (cellL zeroM) := by kernel_rfl
@[simp] theorem zeroL45 : zeroL Tryd.prog 45 = some (cellL zeroM) := by kernel_rfl

end Go.Proofs.YtmlmmaojomghdaaDoor
