/-
  Facts on the types of the program: how many cells each has, and its zero value. Printed by a program (mkfacts). Conditions: none.
-/
import Derived.Test.YtmiicjgbhkjocaaRows
import Derived.Test.YtmiicjgbhkjocaaM
import Derived.Test.YtmiicjgbhkjocaaSz
set_option maxRecDepth 100000
namespace Go.Proofs.Ytmiicjgbhkjocaa
open Go Go.Sx

theorem hmx : Try.prog.follows .mixedOrders = true := by kernel_rfl
@[simp] theorem cellsOf0 : Try.prog.cellsOf 0 = 1 := by kernel_rfl
@[simp] theorem cellsOf1 : Try.prog.cellsOf 1 = 1 := by kernel_rfl
@[simp] theorem cellsOf2 : Try.prog.cellsOf 2 = 1 := by kernel_rfl
@[simp] theorem cellsOf3 : Try.prog.cellsOf 3 = 1 := by kernel_rfl
@[simp] theorem cellsOf4 : Try.prog.cellsOf 4 = 1 := by kernel_rfl
@[simp] theorem cellsOf5 : Try.prog.cellsOf 5 = 1 := by kernel_rfl
@[simp] theorem cellsOf6 : Try.prog.cellsOf 6 = 1 := by kernel_rfl
@[simp] theorem cellsOf7 : Try.prog.cellsOf 7 = 4 := by kernel_rfl
@[simp] theorem cellsOf8 : Try.prog.cellsOf 8 = 4 := by kernel_rfl
@[simp] theorem cellsOf9 : Try.prog.cellsOf 9 = 1 := by kernel_rfl
@[simp] theorem cellsOf10 : Try.prog.cellsOf 10 = 1 := by kernel_rfl
@[simp] theorem cellsOf11 : Try.prog.cellsOf 11 = 1 := by kernel_rfl
@[simp] theorem cellsOf12 : Try.prog.cellsOf 12 = 1 := by kernel_rfl
@[simp] theorem cellsOf13 : Try.prog.cellsOf 13 = 2 := by kernel_rfl
@[simp] theorem cellsOf14 : Try.prog.cellsOf 14 = 2 := by kernel_rfl
@[simp] theorem cellsOf15 : Try.prog.cellsOf 15 = 1 := by kernel_rfl
@[simp] theorem cellsOf16 : Try.prog.cellsOf 16 = 1 := by kernel_rfl
@[simp] theorem cellsOf17 : Try.prog.cellsOf 17 = 1 := by kernel_rfl
@[simp] theorem cellsOf18 : Try.prog.cellsOf 18 = 1 := by kernel_rfl
@[simp] theorem cellsOf19 : Try.prog.cellsOf 19 = 1 := by kernel_rfl
@[simp] theorem cellsOf20 : Try.prog.cellsOf 20 = 1 := by kernel_rfl
@[simp] theorem cellsOf21 : Try.prog.cellsOf 21 = 1 := by kernel_rfl
@[simp] theorem cellsOf22 : Try.prog.cellsOf 22 = 1 := by kernel_rfl
@[simp] theorem cellsOf23 : Try.prog.cellsOf 23 = 1 := by kernel_rfl
@[simp] theorem cellsOf24 : Try.prog.cellsOf 24 = 1 := by kernel_rfl
@[simp] theorem cellsOf25 : Try.prog.cellsOf 25 = 2 := by kernel_rfl
@[simp] theorem cellsOf26 : Try.prog.cellsOf 26 = 2 := by kernel_rfl
@[simp] theorem cellsOf27 : Try.prog.cellsOf 27 = 32 := by kernel_rfl
@[simp] theorem cellsOf28 : Try.prog.cellsOf 28 = 3 := by kernel_rfl
@[simp] theorem cellsOf29 : Try.prog.cellsOf 29 = 3 := by kernel_rfl
@[simp] theorem cellsOf30 : Try.prog.cellsOf 30 = 48 := by kernel_rfl
@[simp] theorem cellsOf31 : Try.prog.cellsOf 31 = 1 := by kernel_rfl
@[simp] theorem cellsOf32 : Try.prog.cellsOf 32 = 32 := by kernel_rfl
@[simp] theorem cellsOf33 : Try.prog.cellsOf 33 = 1 := by kernel_rfl
@[simp] theorem cellsOf34 : Try.prog.cellsOf 34 = 16 := by kernel_rfl
@[simp] theorem cellsOf35 : Try.prog.cellsOf 35 = 136 := by kernel_rfl
@[simp] theorem cellsOf36 : Try.prog.cellsOf 36 = 136 := by kernel_rfl
@[simp] theorem cellsOf37 : Try.prog.cellsOf 37 = 1 := by kernel_rfl
@[simp] theorem cellsOf38 : Try.prog.cellsOf 38 = 2 := by kernel_rfl
@[simp] theorem cellsOf39 : Try.prog.cellsOf 39 = 32 := by kernel_rfl
@[simp] theorem cellsOf40 : Try.prog.cellsOf 40 = 3 := by kernel_rfl
@[simp] theorem cellsOf41 : Try.prog.cellsOf 41 = 48 := by kernel_rfl
@[simp] theorem cellsOf42 : Try.prog.cellsOf 42 = 136 := by kernel_rfl
@[simp] theorem cellsOf43 : Try.prog.cellsOf 43 = 136 := by kernel_rfl
@[simp] theorem cellsOf44 : Try.prog.cellsOf 44 = 1 := by kernel_rfl
@[simp] theorem cellsOf45 : Try.prog.cellsOf 45 = 1 := by kernel_rfl
@[simp] theorem cellsOf46 : Try.prog.cellsOf 46 = 1 := by kernel_rfl
@[simp] theorem cellsOf47 : Try.prog.cellsOf 47 = 3 := by kernel_rfl
@[simp] theorem cellsOf48 : Try.prog.cellsOf 48 = 3 := by kernel_rfl
@[simp] theorem cellsOf49 : Try.prog.cellsOf 49 = 1 := by kernel_rfl
@[simp] theorem cellsOf50 : Try.prog.cellsOf 50 = 1 := by kernel_rfl
@[simp] theorem cellsOf51 : Try.prog.cellsOf 51 = 1 := by kernel_rfl
@[simp] theorem cellsOf52 : Try.prog.cellsOf 52 = 1 := by kernel_rfl
@[simp] theorem cellsOf53 : Try.prog.cellsOf 53 = 1 := by kernel_rfl
@[simp] theorem cellsOf54 : Try.prog.cellsOf 54 = 1 := by kernel_rfl
@[simp] theorem cellsOf55 : Try.prog.cellsOf 55 = 1 := by kernel_rfl
@[simp] theorem cellsOf56 : Try.prog.cellsOf 56 = 1 := by kernel_rfl
@[simp] theorem cellsOf57 : Try.prog.cellsOf 57 = 1 := by kernel_rfl
@[simp] theorem cellsOf58 : Try.prog.cellsOf 58 = 1 := by kernel_rfl
@[simp] theorem cellsOf59 : Try.prog.cellsOf 59 = 1 := by kernel_rfl
@[simp] theorem cellsOf60 : Try.prog.cellsOf 60 = 1 := by kernel_rfl
@[simp] theorem cellsOf61 : Try.prog.cellsOf 61 = 1 := by kernel_rfl
@[simp] theorem cellsOf62 : Try.prog.cellsOf 62 = 1 := by kernel_rfl
@[simp] theorem cellsOf63 : Try.prog.cellsOf 63 = 1 := by kernel_rfl
@[simp] theorem cellsOf64 : Try.prog.cellsOf 64 = 1 := by kernel_rfl
@[simp] theorem cellsOf65 : Try.prog.cellsOf 65 = 1 := by kernel_rfl
@[simp] theorem cellsOf66 : Try.prog.cellsOf 66 = 1 := by kernel_rfl
@[simp] theorem cellsOf67 : Try.prog.cellsOf 67 = 1 := by kernel_rfl
@[simp] theorem cellsOf68 : Try.prog.cellsOf 68 = 1 := by kernel_rfl
@[simp] theorem cellsOf69 : Try.prog.cellsOf 69 = 2 := by kernel_rfl
@[simp] theorem cellsOf70 : Try.prog.cellsOf 70 = 2 := by kernel_rfl
@[simp] theorem cellsOf71 : Try.prog.cellsOf 71 = 1 := by kernel_rfl
@[simp] theorem cellsOf72 : Try.prog.cellsOf 72 = 1 := by kernel_rfl
@[simp] theorem cellsOf73 : Try.prog.cellsOf 73 = 1 := by kernel_rfl
@[simp] theorem cellsOf74 : Try.prog.cellsOf 74 = 1 := by kernel_rfl
@[simp] theorem cellsOf75 : Try.prog.cellsOf 75 = 1 := by kernel_rfl
@[simp] theorem cellsOf76 : Try.prog.cellsOf 76 = 1 := by kernel_rfl
@[simp] theorem cellsOf77 : Try.prog.cellsOf 77 = 1 := by kernel_rfl
@[simp] theorem cellsOf78 : Try.prog.cellsOf 78 = 1 := by kernel_rfl
@[simp] theorem cellsOf79 : Try.prog.cellsOf 79 = 1 := by kernel_rfl
@[simp] theorem cellsOf80 : Try.prog.cellsOf 80 = 1 := by kernel_rfl
@[simp] theorem cellsOf81 : Try.prog.cellsOf 81 = 1 := by kernel_rfl
@[simp] theorem cellsOf82 : Try.prog.cellsOf 82 = 1 := by kernel_rfl
@[simp] theorem cellsOf83 : Try.prog.cellsOf 83 = 1 := by kernel_rfl
@[simp] theorem cellsOf84 : Try.prog.cellsOf 84 = 1 := by kernel_rfl
@[simp] theorem cellsOf85 : Try.prog.cellsOf 85 = 1 := by kernel_rfl
@[simp] theorem cellsOf86 : Try.prog.cellsOf 86 = 1 := by kernel_rfl
@[simp] theorem cellsOf87 : Try.prog.cellsOf 87 = 1 := by kernel_rfl
@[simp] theorem cellsOf88 : Try.prog.cellsOf 88 = 1 := by kernel_rfl
@[simp] theorem cellsOf89 : Try.prog.cellsOf 89 = 1 := by kernel_rfl
@[simp] theorem cellsOf90 : Try.prog.cellsOf 90 = 1 := by kernel_rfl
@[simp] theorem cellsOf91 : Try.prog.cellsOf 91 = 1 := by kernel_rfl
@[simp] theorem cellsOf92 : Try.prog.cellsOf 92 = 1 := by kernel_rfl
@[simp] theorem cellsOf93 : Try.prog.cellsOf 93 = 1 := by kernel_rfl
@[simp] theorem cellsOf94 : Try.prog.cellsOf 94 = 1 := by kernel_rfl
@[simp] theorem cellsOf95 : Try.prog.cellsOf 95 = 1 := by kernel_rfl
@[simp] theorem cellsOf96 : Try.prog.cellsOf 96 = 1 := by kernel_rfl
@[simp] theorem cellsOf97 : Try.prog.cellsOf 97 = 1 := by kernel_rfl
@[simp] theorem cellsOf98 : Try.prog.cellsOf 98 = 2 := by kernel_rfl
@[simp] theorem cellsOf99 : Try.prog.cellsOf 99 = 2 := by kernel_rfl
@[simp] theorem cellsOf100 : Try.prog.cellsOf 100 = 1 := by kernel_rfl
@[simp] theorem cellsOf101 : Try.prog.cellsOf 101 = 2 := by kernel_rfl
@[simp] theorem cellsOf102 : Try.prog.cellsOf 102 = 2 := by kernel_rfl
@[simp] theorem cellsOf103 : Try.prog.cellsOf 103 = 1 := by kernel_rfl
@[simp] theorem cellsOf104 : Try.prog.cellsOf 104 = 1 := by kernel_rfl
@[simp] theorem cellsOf105 : Try.prog.cellsOf 105 = 1 := by kernel_rfl
@[simp] theorem cellsOf106 : Try.prog.cellsOf 106 = 1 := by kernel_rfl
@[simp] theorem cellsOf107 : Try.prog.cellsOf 107 = 1 := by kernel_rfl
@[simp] theorem cellsOf108 : Try.prog.cellsOf 108 = 1 := by kernel_rfl
@[simp] theorem cellsOf109 : Try.prog.cellsOf 109 = 1 := by kernel_rfl
@[simp] theorem cellsOf110 : Try.prog.cellsOf 110 = 1 := by kernel_rfl
@[simp] theorem cellsOf111 : Try.prog.cellsOf 111 = 1 := by kernel_rfl
@[simp] theorem cellsOf112 : Try.prog.cellsOf 112 = 1 := by kernel_rfl
@[simp] theorem cellsOf113 : Try.prog.cellsOf 113 = 1 := by kernel_rfl
@[simp] theorem cellsOf114 : Try.prog.cellsOf 114 = 1 := by kernel_rfl
@[simp] theorem cellsOf115 : Try.prog.cellsOf 115 = 1 := by kernel_rfl
@[simp] theorem cellsOf116 : Try.prog.cellsOf 116 = 1 := by kernel_rfl
@[simp] theorem cellsOf117 : Try.prog.cellsOf 117 = 1 := by kernel_rfl
@[simp] theorem cellsOf118 : Try.prog.cellsOf 118 = 1 := by kernel_rfl
@[simp] theorem cellsOf119 : Try.prog.cellsOf 119 = 1 := by kernel_rfl
@[simp] theorem cellsOf120 : Try.prog.cellsOf 120 = 1 := by kernel_rfl
@[simp] theorem cellsOf121 : Try.prog.cellsOf 121 = 1 := by kernel_rfl
@[simp] theorem cellsOf122 : Try.prog.cellsOf 122 = 1 := by kernel_rfl
@[simp] theorem cellsOf123 : Try.prog.cellsOf 123 = 1 := by kernel_rfl
@[simp] theorem cellsOf124 : Try.prog.cellsOf 124 = 1 := by kernel_rfl
@[simp] theorem cellsOf125 : Try.prog.cellsOf 125 = 1 := by kernel_rfl
@[simp] theorem cellsOf126 : Try.prog.cellsOf 126 = 1 := by kernel_rfl
@[simp] theorem cellsOf127 : Try.prog.cellsOf 127 = 1 := by kernel_rfl
@[simp] theorem cellsOf128 : Try.prog.cellsOf 128 = 1 := by kernel_rfl
@[simp] theorem cellsOf129 : Try.prog.cellsOf 129 = 1 := by kernel_rfl
@[simp] theorem cellsOf130 : Try.prog.cellsOf 130 = 1 := by kernel_rfl
@[simp] theorem cellsOf131 : Try.prog.cellsOf 131 = 1 := by kernel_rfl
@[simp] theorem cellsOf132 : Try.prog.cellsOf 132 = 1 := by kernel_rfl
@[simp] theorem cellsOf133 : Try.prog.cellsOf 133 = 1 := by kernel_rfl
@[simp] theorem cellsOf134 : Try.prog.cellsOf 134 = 1 := by kernel_rfl
@[simp] theorem cellsOf135 : Try.prog.cellsOf 135 = 1 := by kernel_rfl
@[simp] theorem cellsOf136 : Try.prog.cellsOf 136 = 1 := by kernel_rfl
@[simp] theorem cellsOf137 : Try.prog.cellsOf 137 = 1 := by kernel_rfl
@[simp] theorem cellsOf138 : Try.prog.cellsOf 138 = 1 := by kernel_rfl
@[simp] theorem cellsOf139 : Try.prog.cellsOf 139 = 1 := by kernel_rfl
@[simp] theorem cellsOf140 : Try.prog.cellsOf 140 = 1 := by kernel_rfl
@[simp] theorem cellsOf141 : Try.prog.cellsOf 141 = 1 := by kernel_rfl
@[simp] theorem cellsOf142 : Try.prog.cellsOf 142 = 1 := by kernel_rfl
@[simp] theorem cellsOf143 : Try.prog.cellsOf 143 = 1 := by kernel_rfl
@[simp] theorem cellsOf144 : Try.prog.cellsOf 144 = 1 := by kernel_rfl
@[simp] theorem cellsOf145 : Try.prog.cellsOf 145 = 1 := by kernel_rfl
@[simp] theorem cellsOf146 : Try.prog.cellsOf 146 = 1 := by kernel_rfl
@[simp] theorem cellsOf147 : Try.prog.cellsOf 147 = 2 := by kernel_rfl
@[simp] theorem cellsOf148 : Try.prog.cellsOf 148 = 2 := by kernel_rfl
@[simp] theorem cellsOf149 : Try.prog.cellsOf 149 = 3 := by kernel_rfl
@[simp] theorem cellsOf150 : Try.prog.cellsOf 150 = 3 := by kernel_rfl
@[simp] theorem cellsOf151 : Try.prog.cellsOf 151 = 3 := by kernel_rfl
@[simp] theorem cellsOf152 : Try.prog.cellsOf 152 = 3 := by kernel_rfl
@[simp] theorem cellsOf153 : Try.prog.cellsOf 153 = 1 := by kernel_rfl
@[simp] theorem cellsOf154 : Try.prog.cellsOf 154 = 1 := by kernel_rfl
@[simp] theorem cellsOf155 : Try.prog.cellsOf 155 = 1 := by kernel_rfl
@[simp] theorem cellsOf156 : Try.prog.cellsOf 156 = 1 := by kernel_rfl
@[simp] theorem cellsOf157 : Try.prog.cellsOf 157 = 1 := by kernel_rfl
@[simp] theorem cellsOf158 : Try.prog.cellsOf 158 = 1 := by kernel_rfl
@[simp] theorem cellsOf159 : Try.prog.cellsOf 159 = 1 := by kernel_rfl
@[simp] theorem cellsOf160 : Try.prog.cellsOf 160 = 4 := by kernel_rfl
@[simp] theorem cellsOf161 : Try.prog.cellsOf 161 = 4 := by kernel_rfl
@[simp] theorem cellsOf162 : Try.prog.cellsOf 162 = 1 := by kernel_rfl
@[simp] theorem cellsOf163 : Try.prog.cellsOf 163 = 1 := by kernel_rfl
@[simp] theorem cellsOf164 : Try.prog.cellsOf 164 = 1 := by kernel_rfl
@[simp] theorem cellsOf165 : Try.prog.cellsOf 165 = 1 := by kernel_rfl
@[simp] theorem cellsOf166 : Try.prog.cellsOf 166 = 1 := by kernel_rfl
@[simp] theorem cellsOf167 : Try.prog.cellsOf 167 = 1 := by kernel_rfl
@[simp] theorem cellsOf168 : Try.prog.cellsOf 168 = 1 := by kernel_rfl
@[simp] theorem cellsOf169 : Try.prog.cellsOf 169 = 1 := by kernel_rfl
@[simp] theorem cellsOf170 : Try.prog.cellsOf 170 = 1 := by kernel_rfl
@[simp] theorem cellsOf171 : Try.prog.cellsOf 171 = 2 := by kernel_rfl
@[simp] theorem cellsOf172 : Try.prog.cellsOf 172 = 2 := by kernel_rfl
@[simp] theorem cellsOf173 : Try.prog.cellsOf 173 = 1 := by kernel_rfl
@[simp] theorem cellsOf174 : Try.prog.cellsOf 174 = 1 := by kernel_rfl
@[simp] theorem cellsOf175 : Try.prog.cellsOf 175 = 1 := by kernel_rfl
@[simp] theorem cellsOf176 : Try.prog.cellsOf 176 = 1 := by kernel_rfl
@[simp] theorem cellsOf177 : Try.prog.cellsOf 177 = 4 := by kernel_rfl
@[simp] theorem cellsOf178 : Try.prog.cellsOf 178 = 1 := by kernel_rfl
@[simp] theorem cellsOf179 : Try.prog.cellsOf 179 = 1 := by kernel_rfl
@[simp] theorem cellsOf180 : Try.prog.cellsOf 180 = 1 := by kernel_rfl
@[simp] theorem cellsOf181 : Try.prog.cellsOf 181 = 1 := by kernel_rfl
@[simp] theorem cellsOf182 : Try.prog.cellsOf 182 = 1 := by kernel_rfl
@[simp] theorem cellsOf183 : Try.prog.cellsOf 183 = 1 := by kernel_rfl
@[simp] theorem cellsOf184 : Try.prog.cellsOf 184 = 1 := by kernel_rfl
@[simp] theorem cellsOf185 : Try.prog.cellsOf 185 = 1 := by kernel_rfl
@[simp] theorem cellsOf186 : Try.prog.cellsOf 186 = 1 := by kernel_rfl
@[simp] theorem cellsOf187 : Try.prog.cellsOf 187 = 1 := by kernel_rfl
@[simp] theorem cellsOf188 : Try.prog.cellsOf 188 = 1 := by kernel_rfl
@[simp] theorem cellsOf189 : Try.prog.cellsOf 189 = 1 := by kernel_rfl
@[simp] theorem cellsOf190 : Try.prog.cellsOf 190 = 1 := by kernel_rfl
@[simp] theorem cellsOf191 : Try.prog.cellsOf 191 = 1 := by kernel_rfl
@[simp] theorem cellsOf192 : Try.prog.cellsOf 192 = 1 := by kernel_rfl
@[simp] theorem cellsOf193 : Try.prog.cellsOf 193 = 1 := by kernel_rfl
@[simp] theorem cellsOf194 : Try.prog.cellsOf 194 = 1 := by kernel_rfl
@[simp] theorem cellsOf195 : Try.prog.cellsOf 195 = 10 := by kernel_rfl
@[simp] theorem cellsOf196 : Try.prog.cellsOf 196 = 1 := by kernel_rfl
@[simp] theorem cellsOf197 : Try.prog.cellsOf 197 = 1 := by kernel_rfl
@[simp] theorem cellsOf198 : Try.prog.cellsOf 198 = 1 := by kernel_rfl
@[simp] theorem cellsOf199 : Try.prog.cellsOf 199 = 1 := by kernel_rfl
@[simp] theorem cellsOf200 : Try.prog.cellsOf 200 = 1 := by kernel_rfl
@[simp] theorem cellsOf201 : Try.prog.cellsOf 201 = 6 := by kernel_rfl
@[simp] theorem cellsOf202 : Try.prog.cellsOf 202 = 6 := by kernel_rfl
@[simp] theorem cellsOf203 : Try.prog.cellsOf 203 = 1 := by kernel_rfl
@[simp] theorem cellsOf204 : Try.prog.cellsOf 204 = 1 := by kernel_rfl
@[simp] theorem cellsOf205 : Try.prog.cellsOf 205 = 1 := by kernel_rfl
@[simp] theorem cellsOf206 : Try.prog.cellsOf 206 = 3 := by kernel_rfl
@[simp] theorem cellsOf207 : Try.prog.cellsOf 207 = 1 := by kernel_rfl
@[simp] theorem cellsOf208 : Try.prog.cellsOf 208 = 1 := by kernel_rfl
@[simp] theorem cellsOf209 : Try.prog.cellsOf 209 = 1 := by kernel_rfl
@[simp] theorem cellsOf210 : Try.prog.cellsOf 210 = 1 := by kernel_rfl
@[simp] theorem cellsOf211 : Try.prog.cellsOf 211 = 17 := by kernel_rfl
@[simp] theorem cellsOf212 : Try.prog.cellsOf 212 = 1 := by kernel_rfl
@[simp] theorem cellsOf213 : Try.prog.cellsOf 213 = 4 := by kernel_rfl
@[simp] theorem cellsOf214 : Try.prog.cellsOf 214 = 4 := by kernel_rfl
@[simp] theorem cellsOf215 : Try.prog.cellsOf 215 = 0 := by kernel_rfl
@[simp] theorem cellsOf216 : Try.prog.cellsOf 216 = 0 := by kernel_rfl
@[simp] theorem cellsOf217 : Try.prog.cellsOf 217 = 0 := by kernel_rfl
@[simp] theorem cellsOf218 : Try.prog.cellsOf 218 = 1 := by kernel_rfl
@[simp] theorem cellsOf219 : Try.prog.cellsOf 219 = 1 := by kernel_rfl
@[simp] theorem cellsOf220 : Try.prog.cellsOf 220 = 1 := by kernel_rfl
@[simp] theorem cellsOf221 : Try.prog.cellsOf 221 = 1 := by kernel_rfl
@[simp] theorem cellsOf222 : Try.prog.cellsOf 222 = 1 := by kernel_rfl
@[simp] theorem cellsOf223 : Try.prog.cellsOf 223 = 1 := by kernel_rfl
@[simp] theorem cellsOf224 : Try.prog.cellsOf 224 = 11 := by kernel_rfl
@[simp] theorem cellsOf225 : Try.prog.cellsOf 225 = 11 := by kernel_rfl
@[simp] theorem cellsOf226 : Try.prog.cellsOf 226 = 1 := by kernel_rfl
@[simp] theorem bytesOf0 : bytesOf Try.prog 0 = 0 := by kernel_rfl
@[simp] theorem bytesOf1 : bytesOf Try.prog 1 = 8 := by kernel_rfl
@[simp] theorem bytesOf2 : bytesOf Try.prog 2 = 8 := by kernel_rfl
@[simp] theorem bytesOf3 : bytesOf Try.prog 3 = 8 := by kernel_rfl
@[simp] theorem bytesOf4 : bytesOf Try.prog 4 = 1 := by kernel_rfl
@[simp] theorem bytesOf5 : bytesOf Try.prog 5 = 1 := by kernel_rfl
@[simp] theorem bytesOf6 : bytesOf Try.prog 6 = 1 := by kernel_rfl
@[simp] theorem bytesOf7 : bytesOf Try.prog 7 = 24 := by kernel_rfl
@[simp] theorem bytesOf8 : bytesOf Try.prog 8 = 24 := by kernel_rfl
@[simp] theorem bytesOf9 : bytesOf Try.prog 9 = 16 := by kernel_rfl
@[simp] theorem bytesOf10 : bytesOf Try.prog 10 = 16 := by kernel_rfl
@[simp] theorem bytesOf11 : bytesOf Try.prog 11 = 16 := by kernel_rfl
@[simp] theorem bytesOf12 : bytesOf Try.prog 12 = 8 := by kernel_rfl
@[simp] theorem bytesOf13 : bytesOf Try.prog 13 = 24 := by kernel_rfl
@[simp] theorem bytesOf14 : bytesOf Try.prog 14 = 24 := by kernel_rfl
@[simp] theorem bytesOf15 : bytesOf Try.prog 15 = 8 := by kernel_rfl
@[simp] theorem bytesOf16 : bytesOf Try.prog 16 = 8 := by kernel_rfl
@[simp] theorem bytesOf17 : bytesOf Try.prog 17 = 8 := by kernel_rfl
@[simp] theorem bytesOf18 : bytesOf Try.prog 18 = 8 := by kernel_rfl
@[simp] theorem bytesOf19 : bytesOf Try.prog 19 = 8 := by kernel_rfl
@[simp] theorem bytesOf20 : bytesOf Try.prog 20 = 16 := by kernel_rfl
@[simp] theorem bytesOf21 : bytesOf Try.prog 21 = 4 := by kernel_rfl
@[simp] theorem bytesOf22 : bytesOf Try.prog 22 = 4 := by kernel_rfl
@[simp] theorem bytesOf23 : bytesOf Try.prog 23 = 8 := by kernel_rfl
@[simp] theorem bytesOf24 : bytesOf Try.prog 24 = 2 := by kernel_rfl
@[simp] theorem bytesOf25 : bytesOf Try.prog 25 = 4 := by kernel_rfl
@[simp] theorem bytesOf26 : bytesOf Try.prog 26 = 4 := by kernel_rfl
@[simp] theorem bytesOf27 : bytesOf Try.prog 27 = 64 := by kernel_rfl
@[simp] theorem bytesOf28 : bytesOf Try.prog 28 = 4 := by kernel_rfl
@[simp] theorem bytesOf29 : bytesOf Try.prog 29 = 4 := by kernel_rfl
@[simp] theorem bytesOf30 : bytesOf Try.prog 30 = 64 := by kernel_rfl
@[simp] theorem bytesOf31 : bytesOf Try.prog 31 = 2 := by kernel_rfl
@[simp] theorem bytesOf32 : bytesOf Try.prog 32 = 64 := by kernel_rfl
@[simp] theorem bytesOf33 : bytesOf Try.prog 33 = 8 := by kernel_rfl
@[simp] theorem bytesOf34 : bytesOf Try.prog 34 = 128 := by kernel_rfl
@[simp] theorem bytesOf35 : bytesOf Try.prog 35 = 352 := by kernel_rfl
@[simp] theorem bytesOf36 : bytesOf Try.prog 36 = 352 := by kernel_rfl
@[simp] theorem bytesOf37 : bytesOf Try.prog 37 = 8 := by kernel_rfl
@[simp] theorem bytesOf38 : bytesOf Try.prog 38 = 4 := by kernel_rfl
@[simp] theorem bytesOf39 : bytesOf Try.prog 39 = 64 := by kernel_rfl
@[simp] theorem bytesOf40 : bytesOf Try.prog 40 = 4 := by kernel_rfl
@[simp] theorem bytesOf41 : bytesOf Try.prog 41 = 64 := by kernel_rfl
@[simp] theorem bytesOf42 : bytesOf Try.prog 42 = 352 := by kernel_rfl
@[simp] theorem bytesOf43 : bytesOf Try.prog 43 = 352 := by kernel_rfl
@[simp] theorem bytesOf44 : bytesOf Try.prog 44 = 8 := by kernel_rfl
@[simp] theorem bytesOf45 : bytesOf Try.prog 45 = 8 := by kernel_rfl
@[simp] theorem bytesOf46 : bytesOf Try.prog 46 = 24 := by kernel_rfl
@[simp] theorem bytesOf47 : bytesOf Try.prog 47 = 24 := by kernel_rfl
@[simp] theorem bytesOf48 : bytesOf Try.prog 48 = 24 := by kernel_rfl
@[simp] theorem bytesOf49 : bytesOf Try.prog 49 = 0 := by kernel_rfl
@[simp] theorem bytesOf50 : bytesOf Try.prog 50 = 8 := by kernel_rfl
@[simp] theorem bytesOf51 : bytesOf Try.prog 51 = 0 := by kernel_rfl
@[simp] theorem bytesOf52 : bytesOf Try.prog 52 = 8 := by kernel_rfl
@[simp] theorem bytesOf53 : bytesOf Try.prog 53 = 8 := by kernel_rfl
@[simp] theorem bytesOf54 : bytesOf Try.prog 54 = 8 := by kernel_rfl
@[simp] theorem bytesOf55 : bytesOf Try.prog 55 = 8 := by kernel_rfl
@[simp] theorem bytesOf56 : bytesOf Try.prog 56 = 8 := by kernel_rfl
@[simp] theorem bytesOf57 : bytesOf Try.prog 57 = 8 := by kernel_rfl
@[simp] theorem bytesOf58 : bytesOf Try.prog 58 = 8 := by kernel_rfl
@[simp] theorem bytesOf59 : bytesOf Try.prog 59 = 0 := by kernel_rfl
@[simp] theorem bytesOf60 : bytesOf Try.prog 60 = 8 := by kernel_rfl
@[simp] theorem bytesOf61 : bytesOf Try.prog 61 = 8 := by kernel_rfl
@[simp] theorem bytesOf62 : bytesOf Try.prog 62 = 8 := by kernel_rfl
@[simp] theorem bytesOf63 : bytesOf Try.prog 63 = 0 := by kernel_rfl
@[simp] theorem bytesOf64 : bytesOf Try.prog 64 = 8 := by kernel_rfl
@[simp] theorem bytesOf65 : bytesOf Try.prog 65 = 8 := by kernel_rfl
@[simp] theorem bytesOf66 : bytesOf Try.prog 66 = 8 := by kernel_rfl
@[simp] theorem bytesOf67 : bytesOf Try.prog 67 = 8 := by kernel_rfl
@[simp] theorem bytesOf68 : bytesOf Try.prog 68 = 24 := by kernel_rfl
@[simp] theorem bytesOf69 : bytesOf Try.prog 69 = 32 := by kernel_rfl
@[simp] theorem bytesOf70 : bytesOf Try.prog 70 = 32 := by kernel_rfl
@[simp] theorem bytesOf71 : bytesOf Try.prog 71 = 8 := by kernel_rfl
@[simp] theorem bytesOf72 : bytesOf Try.prog 72 = 8 := by kernel_rfl
@[simp] theorem bytesOf73 : bytesOf Try.prog 73 = 8 := by kernel_rfl
@[simp] theorem bytesOf74 : bytesOf Try.prog 74 = 0 := by kernel_rfl
@[simp] theorem bytesOf75 : bytesOf Try.prog 75 = 8 := by kernel_rfl
@[simp] theorem bytesOf76 : bytesOf Try.prog 76 = 0 := by kernel_rfl
@[simp] theorem bytesOf77 : bytesOf Try.prog 77 = 8 := by kernel_rfl
@[simp] theorem bytesOf78 : bytesOf Try.prog 78 = 8 := by kernel_rfl
@[simp] theorem bytesOf79 : bytesOf Try.prog 79 = 0 := by kernel_rfl
@[simp] theorem bytesOf80 : bytesOf Try.prog 80 = 8 := by kernel_rfl
@[simp] theorem bytesOf81 : bytesOf Try.prog 81 = 8 := by kernel_rfl
@[simp] theorem bytesOf82 : bytesOf Try.prog 82 = 24 := by kernel_rfl
@[simp] theorem bytesOf83 : bytesOf Try.prog 83 = 8 := by kernel_rfl
@[simp] theorem bytesOf84 : bytesOf Try.prog 84 = 24 := by kernel_rfl
@[simp] theorem bytesOf85 : bytesOf Try.prog 85 = 8 := by kernel_rfl
@[simp] theorem bytesOf86 : bytesOf Try.prog 86 = 24 := by kernel_rfl
@[simp] theorem bytesOf87 : bytesOf Try.prog 87 = 8 := by kernel_rfl
@[simp] theorem bytesOf88 : bytesOf Try.prog 88 = 8 := by kernel_rfl
@[simp] theorem bytesOf89 : bytesOf Try.prog 89 = 8 := by kernel_rfl
@[simp] theorem bytesOf90 : bytesOf Try.prog 90 = 8 := by kernel_rfl
@[simp] theorem bytesOf91 : bytesOf Try.prog 91 = 8 := by kernel_rfl
@[simp] theorem bytesOf92 : bytesOf Try.prog 92 = 8 := by kernel_rfl
@[simp] theorem bytesOf93 : bytesOf Try.prog 93 = 24 := by kernel_rfl
@[simp] theorem bytesOf94 : bytesOf Try.prog 94 = 8 := by kernel_rfl
@[simp] theorem bytesOf95 : bytesOf Try.prog 95 = 8 := by kernel_rfl
@[simp] theorem bytesOf96 : bytesOf Try.prog 96 = 8 := by kernel_rfl
@[simp] theorem bytesOf97 : bytesOf Try.prog 97 = 8 := by kernel_rfl
@[simp] theorem bytesOf98 : bytesOf Try.prog 98 = 16 := by kernel_rfl
@[simp] theorem bytesOf99 : bytesOf Try.prog 99 = 16 := by kernel_rfl
@[simp] theorem bytesOf100 : bytesOf Try.prog 100 = 8 := by kernel_rfl
@[simp] theorem bytesOf101 : bytesOf Try.prog 101 = 16 := by kernel_rfl
@[simp] theorem bytesOf102 : bytesOf Try.prog 102 = 16 := by kernel_rfl
@[simp] theorem bytesOf103 : bytesOf Try.prog 103 = 8 := by kernel_rfl
@[simp] theorem bytesOf104 : bytesOf Try.prog 104 = 8 := by kernel_rfl
@[simp] theorem bytesOf105 : bytesOf Try.prog 105 = 8 := by kernel_rfl
@[simp] theorem bytesOf106 : bytesOf Try.prog 106 = 8 := by kernel_rfl
@[simp] theorem bytesOf107 : bytesOf Try.prog 107 = 8 := by kernel_rfl
@[simp] theorem bytesOf108 : bytesOf Try.prog 108 = 8 := by kernel_rfl
@[simp] theorem bytesOf109 : bytesOf Try.prog 109 = 8 := by kernel_rfl
@[simp] theorem bytesOf110 : bytesOf Try.prog 110 = 8 := by kernel_rfl
@[simp] theorem bytesOf111 : bytesOf Try.prog 111 = 8 := by kernel_rfl
@[simp] theorem bytesOf112 : bytesOf Try.prog 112 = 8 := by kernel_rfl
@[simp] theorem bytesOf113 : bytesOf Try.prog 113 = 8 := by kernel_rfl
@[simp] theorem bytesOf114 : bytesOf Try.prog 114 = 8 := by kernel_rfl
@[simp] theorem bytesOf115 : bytesOf Try.prog 115 = 8 := by kernel_rfl
@[simp] theorem bytesOf116 : bytesOf Try.prog 116 = 8 := by kernel_rfl
@[simp] theorem bytesOf117 : bytesOf Try.prog 117 = 8 := by kernel_rfl
@[simp] theorem bytesOf118 : bytesOf Try.prog 118 = 8 := by kernel_rfl
@[simp] theorem bytesOf119 : bytesOf Try.prog 119 = 8 := by kernel_rfl
@[simp] theorem bytesOf120 : bytesOf Try.prog 120 = 8 := by kernel_rfl
@[simp] theorem bytesOf121 : bytesOf Try.prog 121 = 8 := by kernel_rfl
@[simp] theorem bytesOf122 : bytesOf Try.prog 122 = 8 := by kernel_rfl
@[simp] theorem bytesOf123 : bytesOf Try.prog 123 = 8 := by kernel_rfl
@[simp] theorem bytesOf124 : bytesOf Try.prog 124 = 8 := by kernel_rfl
@[simp] theorem bytesOf125 : bytesOf Try.prog 125 = 8 := by kernel_rfl
@[simp] theorem bytesOf126 : bytesOf Try.prog 126 = 8 := by kernel_rfl
@[simp] theorem bytesOf127 : bytesOf Try.prog 127 = 8 := by kernel_rfl
@[simp] theorem bytesOf128 : bytesOf Try.prog 128 = 8 := by kernel_rfl
@[simp] theorem bytesOf129 : bytesOf Try.prog 129 = 8 := by kernel_rfl
@[simp] theorem bytesOf130 : bytesOf Try.prog 130 = 8 := by kernel_rfl
@[simp] theorem bytesOf131 : bytesOf Try.prog 131 = 8 := by kernel_rfl
@[simp] theorem bytesOf132 : bytesOf Try.prog 132 = 0 := by kernel_rfl
@[simp] theorem bytesOf133 : bytesOf Try.prog 133 = 8 := by kernel_rfl
@[simp] theorem bytesOf134 : bytesOf Try.prog 134 = 8 := by kernel_rfl
@[simp] theorem bytesOf135 : bytesOf Try.prog 135 = 8 := by kernel_rfl
@[simp] theorem bytesOf136 : bytesOf Try.prog 136 = 8 := by kernel_rfl
@[simp] theorem bytesOf137 : bytesOf Try.prog 137 = 8 := by kernel_rfl
@[simp] theorem bytesOf138 : bytesOf Try.prog 138 = 8 := by kernel_rfl
@[simp] theorem bytesOf139 : bytesOf Try.prog 139 = 8 := by kernel_rfl
@[simp] theorem bytesOf140 : bytesOf Try.prog 140 = 8 := by kernel_rfl
@[simp] theorem bytesOf141 : bytesOf Try.prog 141 = 24 := by kernel_rfl
@[simp] theorem bytesOf142 : bytesOf Try.prog 142 = 8 := by kernel_rfl
@[simp] theorem bytesOf143 : bytesOf Try.prog 143 = 8 := by kernel_rfl
@[simp] theorem bytesOf144 : bytesOf Try.prog 144 = 8 := by kernel_rfl
@[simp] theorem bytesOf145 : bytesOf Try.prog 145 = 8 := by kernel_rfl
@[simp] theorem bytesOf146 : bytesOf Try.prog 146 = 24 := by kernel_rfl
@[simp] theorem bytesOf147 : bytesOf Try.prog 147 = 32 := by kernel_rfl
@[simp] theorem bytesOf148 : bytesOf Try.prog 148 = 32 := by kernel_rfl
@[simp] theorem bytesOf149 : bytesOf Try.prog 149 = 40 := by kernel_rfl
@[simp] theorem bytesOf150 : bytesOf Try.prog 150 = 40 := by kernel_rfl
@[simp] theorem bytesOf151 : bytesOf Try.prog 151 = 40 := by kernel_rfl
@[simp] theorem bytesOf152 : bytesOf Try.prog 152 = 40 := by kernel_rfl
@[simp] theorem bytesOf153 : bytesOf Try.prog 153 = 8 := by kernel_rfl
@[simp] theorem bytesOf154 : bytesOf Try.prog 154 = 8 := by kernel_rfl
@[simp] theorem bytesOf155 : bytesOf Try.prog 155 = 8 := by kernel_rfl
@[simp] theorem bytesOf156 : bytesOf Try.prog 156 = 8 := by kernel_rfl
@[simp] theorem bytesOf157 : bytesOf Try.prog 157 = 8 := by kernel_rfl
@[simp] theorem bytesOf158 : bytesOf Try.prog 158 = 8 := by kernel_rfl
@[simp] theorem bytesOf159 : bytesOf Try.prog 159 = 8 := by kernel_rfl
@[simp] theorem bytesOf160 : bytesOf Try.prog 160 = 24 := by kernel_rfl
@[simp] theorem bytesOf161 : bytesOf Try.prog 161 = 24 := by kernel_rfl
@[simp] theorem bytesOf162 : bytesOf Try.prog 162 = 8 := by kernel_rfl
@[simp] theorem bytesOf163 : bytesOf Try.prog 163 = 8 := by kernel_rfl
@[simp] theorem bytesOf164 : bytesOf Try.prog 164 = 8 := by kernel_rfl
@[simp] theorem bytesOf165 : bytesOf Try.prog 165 = 8 := by kernel_rfl
@[simp] theorem bytesOf166 : bytesOf Try.prog 166 = 8 := by kernel_rfl
@[simp] theorem bytesOf167 : bytesOf Try.prog 167 = 8 := by kernel_rfl
@[simp] theorem bytesOf168 : bytesOf Try.prog 168 = 8 := by kernel_rfl
@[simp] theorem bytesOf169 : bytesOf Try.prog 169 = 8 := by kernel_rfl
@[simp] theorem bytesOf170 : bytesOf Try.prog 170 = 8 := by kernel_rfl
@[simp] theorem bytesOf171 : bytesOf Try.prog 171 = 32 := by kernel_rfl
@[simp] theorem bytesOf172 : bytesOf Try.prog 172 = 32 := by kernel_rfl
@[simp] theorem bytesOf173 : bytesOf Try.prog 173 = 8 := by kernel_rfl
@[simp] theorem bytesOf174 : bytesOf Try.prog 174 = 8 := by kernel_rfl
@[simp] theorem bytesOf175 : bytesOf Try.prog 175 = 8 := by kernel_rfl
@[simp] theorem bytesOf176 : bytesOf Try.prog 176 = 8 := by kernel_rfl
@[simp] theorem bytesOf177 : bytesOf Try.prog 177 = 32 := by kernel_rfl
@[simp] theorem bytesOf178 : bytesOf Try.prog 178 = 8 := by kernel_rfl
@[simp] theorem bytesOf179 : bytesOf Try.prog 179 = 8 := by kernel_rfl
@[simp] theorem bytesOf180 : bytesOf Try.prog 180 = 8 := by kernel_rfl
@[simp] theorem bytesOf181 : bytesOf Try.prog 181 = 8 := by kernel_rfl
@[simp] theorem bytesOf182 : bytesOf Try.prog 182 = 8 := by kernel_rfl
@[simp] theorem bytesOf183 : bytesOf Try.prog 183 = 8 := by kernel_rfl
@[simp] theorem bytesOf184 : bytesOf Try.prog 184 = 8 := by kernel_rfl
@[simp] theorem bytesOf185 : bytesOf Try.prog 185 = 8 := by kernel_rfl
@[simp] theorem bytesOf186 : bytesOf Try.prog 186 = 8 := by kernel_rfl
@[simp] theorem bytesOf187 : bytesOf Try.prog 187 = 8 := by kernel_rfl
@[simp] theorem bytesOf188 : bytesOf Try.prog 188 = 8 := by kernel_rfl
@[simp] theorem bytesOf189 : bytesOf Try.prog 189 = 8 := by kernel_rfl
@[simp] theorem bytesOf190 : bytesOf Try.prog 190 = 8 := by kernel_rfl
@[simp] theorem bytesOf191 : bytesOf Try.prog 191 = 8 := by kernel_rfl
@[simp] theorem bytesOf192 : bytesOf Try.prog 192 = 8 := by kernel_rfl
@[simp] theorem bytesOf193 : bytesOf Try.prog 193 = 8 := by kernel_rfl
@[simp] theorem bytesOf194 : bytesOf Try.prog 194 = 8 := by kernel_rfl
@[simp] theorem bytesOf195 : bytesOf Try.prog 195 = 80 := by kernel_rfl
@[simp] theorem bytesOf196 : bytesOf Try.prog 196 = 8 := by kernel_rfl
@[simp] theorem bytesOf197 : bytesOf Try.prog 197 = 8 := by kernel_rfl
@[simp] theorem bytesOf198 : bytesOf Try.prog 198 = 8 := by kernel_rfl
@[simp] theorem bytesOf199 : bytesOf Try.prog 199 = 8 := by kernel_rfl
@[simp] theorem bytesOf200 : bytesOf Try.prog 200 = 8 := by kernel_rfl
@[simp] theorem bytesOf201 : bytesOf Try.prog 201 = 56 := by kernel_rfl
@[simp] theorem bytesOf202 : bytesOf Try.prog 202 = 56 := by kernel_rfl
@[simp] theorem bytesOf203 : bytesOf Try.prog 203 = 8 := by kernel_rfl
@[simp] theorem bytesOf204 : bytesOf Try.prog 204 = 8 := by kernel_rfl
@[simp] theorem bytesOf205 : bytesOf Try.prog 205 = 8 := by kernel_rfl
@[simp] theorem bytesOf206 : bytesOf Try.prog 206 = 24 := by kernel_rfl
@[simp] theorem bytesOf207 : bytesOf Try.prog 207 = 8 := by kernel_rfl
@[simp] theorem bytesOf208 : bytesOf Try.prog 208 = 8 := by kernel_rfl
@[simp] theorem bytesOf209 : bytesOf Try.prog 209 = 8 := by kernel_rfl
@[simp] theorem bytesOf210 : bytesOf Try.prog 210 = 8 := by kernel_rfl
@[simp] theorem bytesOf211 : bytesOf Try.prog 211 = 136 := by kernel_rfl
@[simp] theorem bytesOf212 : bytesOf Try.prog 212 = 8 := by kernel_rfl
@[simp] theorem bytesOf213 : bytesOf Try.prog 213 = 40 := by kernel_rfl
@[simp] theorem bytesOf214 : bytesOf Try.prog 214 = 40 := by kernel_rfl
@[simp] theorem bytesOf215 : bytesOf Try.prog 215 = 0 := by kernel_rfl
@[simp] theorem bytesOf216 : bytesOf Try.prog 216 = 0 := by kernel_rfl
@[simp] theorem bytesOf217 : bytesOf Try.prog 217 = 0 := by kernel_rfl
@[simp] theorem bytesOf218 : bytesOf Try.prog 218 = 1 := by kernel_rfl
@[simp] theorem bytesOf219 : bytesOf Try.prog 219 = 1 := by kernel_rfl
@[simp] theorem bytesOf220 : bytesOf Try.prog 220 = 8 := by kernel_rfl
@[simp] theorem bytesOf221 : bytesOf Try.prog 221 = 8 := by kernel_rfl
@[simp] theorem bytesOf222 : bytesOf Try.prog 222 = 4 := by kernel_rfl
@[simp] theorem bytesOf223 : bytesOf Try.prog 223 = 4 := by kernel_rfl
@[simp] theorem bytesOf224 : bytesOf Try.prog 224 = 48 := by kernel_rfl
@[simp] theorem bytesOf225 : bytesOf Try.prog 225 = 48 := by kernel_rfl
@[simp] theorem bytesOf226 : bytesOf Try.prog 226 = 8 := by kernel_rfl
@[simp] theorem zeroL2 : zeroL Try.prog 2 = some [.int .i64 0] := by kernel_rfl
@[simp] theorem zeroL3 : zeroL Try.prog 3 = some [.int .i64 0] := by kernel_rfl
@[simp] theorem zeroL4 : zeroL Try.prog 4 = some [.bool false] := by kernel_rfl
@[simp] theorem zeroL5 : zeroL Try.prog 5 = some [.int .u8 0] := by kernel_rfl
@[simp] theorem zeroL6 : zeroL Try.prog 6 = some [.int .u8 0] := by kernel_rfl
@[simp] theorem zeroL7 : zeroL Try.prog 7 = some [.int .i64 0, .int .i64 0, .bool false, .int .u8 0] := by kernel_rfl
@[simp] theorem zeroL8 : zeroL Try.prog 8 = some [.int .i64 0, .int .i64 0, .bool false, .int .u8 0] := by kernel_rfl
@[simp] theorem zeroL9 : zeroL Try.prog 9 = some [.string ByteArray.empty] := by kernel_rfl
@[simp] theorem zeroL10 : zeroL Try.prog 10 = some [.string ByteArray.empty] := by kernel_rfl
@[simp] theorem zeroL11 : zeroL Try.prog 11 = some [.string ByteArray.empty] := by kernel_rfl
@[simp] theorem zeroL12 : zeroL Try.prog 12 = some [.int .u64 0] := by kernel_rfl
@[simp] theorem zeroL13 : zeroL Try.prog 13 = some [.string ByteArray.empty, .int .u64 0] := by kernel_rfl
@[simp] theorem zeroL14 : zeroL Try.prog 14 = some [.string ByteArray.empty, .int .u64 0] := by kernel_rfl
@[simp] theorem zeroL15 : zeroL Try.prog 15 = some [.pointer none] := by kernel_rfl
@[simp] theorem zeroL16 : zeroL Try.prog 16 = some [.pointer none] := by kernel_rfl
@[simp] theorem zeroL17 : zeroL Try.prog 17 = some [.pointer none] := by kernel_rfl
@[simp] theorem zeroL18 : zeroL Try.prog 18 = some [.pointer none] := by kernel_rfl
@[simp] theorem zeroL19 : zeroL Try.prog 19 = some [.pointer none] := by kernel_rfl
@[simp] theorem zeroL20 : zeroL Try.prog 20 = some [.nilIface] := by kernel_rfl
@[simp] theorem zeroL21 : zeroL Try.prog 21 = some [.int .i32 0] := by kernel_rfl
@[simp] theorem zeroL22 : zeroL Try.prog 22 = some [.int .u32 0] := by kernel_rfl
@[simp] theorem zeroL23 : zeroL Try.prog 23 = some [.int .u64 0] := by kernel_rfl
@[simp] theorem zeroL24 : zeroL Try.prog 24 = some [.int .u16 0] := by kernel_rfl
@[simp] theorem zeroL25 : zeroL Try.prog 25 = some [.bool false, .int .u16 0] := by kernel_rfl
@[simp] theorem zeroL26 : zeroL Try.prog 26 = some [.bool false, .int .u16 0] := by kernel_rfl
@[simp] theorem zeroL27 : zeroL Try.prog 27 = some [.bool false, .int .u16 0, .bool false, .int .u16 0, .bool false, .int .u16 0, .bool false, .int .u16 0, .bool false, .int .u16 0, .bool false, .int .u16 0, .bool false, .int .u16 0, .bool false, .int .u16 0, .bool false, .int .u16 0, .bool false, .int .u16 0, .bool false, .int .u16 0, .bool false, .int .u16 0, .bool false, .int .u16 0, .bool false, .int .u16 0, .bool false, .int .u16 0, .bool false, .int .u16 0] := by kernel_rfl
@[simp] theorem zeroL28 : zeroL Try.prog 28 = some [.bool false, .bool false, .int .u16 0] := by kernel_rfl
@[simp] theorem zeroL29 : zeroL Try.prog 29 = some [.bool false, .bool false, .int .u16 0] := by kernel_rfl
@[simp] theorem zeroL30 : zeroL Try.prog 30 = some [.bool false, .bool false, .int .u16 0, .bool false, .bool false, .int .u16 0, .bool false, .bool false, .int .u16 0, .bool false, .bool false, .int .u16 0, .bool false, .bool false, .int .u16 0, .bool false, .bool false, .int .u16 0, .bool false, .bool false, .int .u16 0, .bool false, .bool false, .int .u16 0, .bool false, .bool false, .int .u16 0, .bool false, .bool false, .int .u16 0, .bool false, .bool false, .int .u16 0, .bool false, .bool false, .int .u16 0, .bool false, .bool false, .int .u16 0, .bool false, .bool false, .int .u16 0, .bool false, .bool false, .int .u16 0, .bool false, .bool false, .int .u16 0] := by kernel_rfl
@[simp] theorem zeroL31 : zeroL Try.prog 31 = some [.int .i16 0] := by kernel_rfl
@[simp] theorem zeroL32 : zeroL Try.prog 32 = some [.int .i16 0, .int .i16 0, .int .i16 0, .int .i16 0, .int .i16 0, .int .i16 0, .int .i16 0, .int .i16 0, .int .i16 0, .int .i16 0, .int .i16 0, .int .i16 0, .int .i16 0, .int .i16 0, .int .i16 0, .int .i16 0, .int .i16 0, .int .i16 0, .int .i16 0, .int .i16 0, .int .i16 0, .int .i16 0, .int .i16 0, .int .i16 0, .int .i16 0, .int .i16 0, .int .i16 0, .int .i16 0, .int .i16 0, .int .i16 0, .int .i16 0, .int .i16 0] := by kernel_rfl
@[simp] theorem zeroL33 : zeroL Try.prog 33 = some [.float .f64 0] := by kernel_rfl
@[simp] theorem zeroL34 : zeroL Try.prog 34 = some [.float .f64 0, .float .f64 0, .float .f64 0, .float .f64 0, .float .f64 0, .float .f64 0, .float .f64 0, .float .f64 0, .float .f64 0, .float .f64 0, .float .f64 0, .float .f64 0, .float .f64 0, .float .f64 0, .float .f64 0, .float .f64 0] := by kernel_rfl
@[simp] theorem zeroL38 : zeroL Try.prog 38 = some [.bool false, .int .u16 0] := by kernel_rfl
@[simp] theorem zeroL39 : zeroL Try.prog 39 = some [.bool false, .int .u16 0, .bool false, .int .u16 0, .bool false, .int .u16 0, .bool false, .int .u16 0, .bool false, .int .u16 0, .bool false, .int .u16 0, .bool false, .int .u16 0, .bool false, .int .u16 0, .bool false, .int .u16 0, .bool false, .int .u16 0, .bool false, .int .u16 0, .bool false, .int .u16 0, .bool false, .int .u16 0, .bool false, .int .u16 0, .bool false, .int .u16 0, .bool false, .int .u16 0] := by kernel_rfl
@[simp] theorem zeroL40 : zeroL Try.prog 40 = some [.bool false, .bool false, .int .u16 0] := by kernel_rfl
@[simp] theorem zeroL41 : zeroL Try.prog 41 = some [.bool false, .bool false, .int .u16 0, .bool false, .bool false, .int .u16 0, .bool false, .bool false, .int .u16 0, .bool false, .bool false, .int .u16 0, .bool false, .bool false, .int .u16 0, .bool false, .bool false, .int .u16 0, .bool false, .bool false, .int .u16 0, .bool false, .bool false, .int .u16 0, .bool false, .bool false, .int .u16 0, .bool false, .bool false, .int .u16 0, .bool false, .bool false, .int .u16 0, .bool false, .bool false, .int .u16 0, .bool false, .bool false, .int .u16 0, .bool false, .bool false, .int .u16 0, .bool false, .bool false, .int .u16 0, .bool false, .bool false, .int .u16 0] := by kernel_rfl
@[simp] theorem zeroL46 : zeroL Try.prog 46 = some [.slice none 0 0] := by kernel_rfl
@[simp] theorem zeroL47 : zeroL Try.prog 47 = some [.int .i64 0, .int .i64 0, .int .i64 0] := by kernel_rfl
@[simp] theorem zeroL48 : zeroL Try.prog 48 = some [.int .i64 0, .int .i64 0, .int .i64 0] := by kernel_rfl
@[simp] theorem zeroL68 : zeroL Try.prog 68 = some [.slice none 0 0] := by kernel_rfl
@[simp] theorem zeroL69 : zeroL Try.prog 69 = some [.int .i64 0, .slice none 0 0] := by kernel_rfl
@[simp] theorem zeroL70 : zeroL Try.prog 70 = some [.int .i64 0, .slice none 0 0] := by kernel_rfl
@[simp] theorem zeroL82 : zeroL Try.prog 82 = some [.slice none 0 0] := by kernel_rfl
@[simp] theorem zeroL84 : zeroL Try.prog 84 = some [.slice none 0 0] := by kernel_rfl
@[simp] theorem zeroL86 : zeroL Try.prog 86 = some [.slice none 0 0] := by kernel_rfl
@[simp] theorem zeroL93 : zeroL Try.prog 93 = some [.slice none 0 0] := by kernel_rfl
@[simp] theorem zeroL98 : zeroL Try.prog 98 = some [.int .i64 0, .int .i64 0] := by kernel_rfl
@[simp] theorem zeroL99 : zeroL Try.prog 99 = some [.int .i64 0, .int .i64 0] := by kernel_rfl
@[simp] theorem zeroL101 : zeroL Try.prog 101 = some [.int .i64 0, .int .i64 0] := by kernel_rfl
@[simp] theorem zeroL102 : zeroL Try.prog 102 = some [.int .i64 0, .int .i64 0] := by kernel_rfl
@[simp] theorem zeroL109 : zeroL Try.prog 109 = some [.pointer none] := by kernel_rfl
@[simp] theorem zeroL119 : zeroL Try.prog 119 = some [.int .u64 0] := by kernel_rfl
@[simp] theorem zeroL141 : zeroL Try.prog 141 = some [.slice none 0 0] := by kernel_rfl
@[simp] theorem zeroL146 : zeroL Try.prog 146 = some [.slice none 0 0] := by kernel_rfl
@[simp] theorem zeroL147 : zeroL Try.prog 147 = some [.int .i64 0, .slice none 0 0] := by kernel_rfl
@[simp] theorem zeroL148 : zeroL Try.prog 148 = some [.int .i64 0, .slice none 0 0] := by kernel_rfl
@[simp] theorem zeroL149 : zeroL Try.prog 149 = some [.int .i64 0, .int .i64 0, .slice none 0 0] := by kernel_rfl
@[simp] theorem zeroL150 : zeroL Try.prog 150 = some [.int .i64 0, .int .i64 0, .slice none 0 0] := by kernel_rfl
@[simp] theorem zeroL151 : zeroL Try.prog 151 = some [.int .i64 0, .int .i64 0, .slice none 0 0] := by kernel_rfl
@[simp] theorem zeroL152 : zeroL Try.prog 152 = some [.int .i64 0, .int .i64 0, .slice none 0 0] := by kernel_rfl
@[simp] theorem zeroL160 : zeroL Try.prog 160 = some [.int .i64 0, .int .i64 0, .bool false, .bool false] := by kernel_rfl
@[simp] theorem zeroL161 : zeroL Try.prog 161 = some [.int .i64 0, .int .i64 0, .bool false, .bool false] := by kernel_rfl
@[simp] theorem zeroL171 : zeroL Try.prog 171 = some [.slice none 0 0, .int .i64 0] := by kernel_rfl
@[simp] theorem zeroL172 : zeroL Try.prog 172 = some [.slice none 0 0, .int .i64 0] := by kernel_rfl
@[simp] theorem zeroL177 : zeroL Try.prog 177 = some [.float .f64 0, .float .f64 0, .float .f64 0, .float .f64 0] := by kernel_rfl
@[simp] theorem zeroL178 : zeroL Try.prog 178 = some [.pointer none] := by kernel_rfl
@[simp] theorem zeroL180 : zeroL Try.prog 180 = some [.pointer none] := by kernel_rfl
@[simp] theorem zeroL195 : zeroL Try.prog 195 = some [.int .i64 0, .int .i64 0, .int .i64 0, .int .i64 0, .int .i64 0, .int .i64 0, .int .i64 0, .int .i64 0, .int .i64 0, .int .i64 0] := by kernel_rfl
@[simp] theorem zeroL200 : zeroL Try.prog 200 = some [.pointer none] := by kernel_rfl
@[simp] theorem zeroL201 : zeroL Try.prog 201 = some [.pointer none, .slice none 0 0, .int .i64 0, .int .i64 0, .bool false, .bool false] := by kernel_rfl
@[simp] theorem zeroL202 : zeroL Try.prog 202 = some [.pointer none, .slice none 0 0, .int .i64 0, .int .i64 0, .bool false, .bool false] := by kernel_rfl
@[simp] theorem zeroL206 : zeroL Try.prog 206 = some [.int .i64 0, .int .i64 0, .int .i64 0] := by kernel_rfl
@[simp] theorem zeroL211 : zeroL Try.prog 211 = some [.int .i64 0, .int .i64 0, .int .i64 0, .int .i64 0, .int .i64 0, .int .i64 0, .int .i64 0, .int .i64 0, .int .i64 0, .int .i64 0, .int .i64 0, .int .i64 0, .int .i64 0, .int .i64 0, .int .i64 0, .int .i64 0, .int .i64 0] := by kernel_rfl
@[simp] theorem zeroL213 : zeroL Try.prog 213 = some [.pointer none, .pointer none, .pointer none, .string ByteArray.empty] := by kernel_rfl
@[simp] theorem zeroL214 : zeroL Try.prog 214 = some [.pointer none, .pointer none, .pointer none, .string ByteArray.empty] := by kernel_rfl
@[simp] theorem zeroL215 : zeroL Try.prog 215 = some [] := by kernel_rfl
@[simp] theorem zeroL216 : zeroL Try.prog 216 = some [] := by kernel_rfl
@[simp] theorem zeroL217 : zeroL Try.prog 217 = some [] := by kernel_rfl
@[simp] theorem zeroL218 : zeroL Try.prog 218 = some [.int .u8 0] := by kernel_rfl
@[simp] theorem zeroL219 : zeroL Try.prog 219 = some [.int .u8 0] := by kernel_rfl
@[simp] theorem zeroL221 : zeroL Try.prog 221 = some [.pointer none] := by kernel_rfl
@[simp] theorem zeroL222 : zeroL Try.prog 222 = some [.int .i32 0] := by kernel_rfl
@[simp] theorem zeroL223 : zeroL Try.prog 223 = some [.int .i32 0] := by kernel_rfl
@[simp] theorem zeroL226 : zeroL Try.prog 226 = some [.pointer none] := by kernel_rfl
@[simp] theorem zeroL35 : zeroL Try.prog 35 = some (cellL zeroM) := by kernel_rfl
@[simp] theorem zeroL36 : zeroL Try.prog 36 = some (cellL zeroM) := by kernel_rfl
@[simp] theorem zeroL42 : zeroL Try.prog 42 = some (cellL zeroM) := by kernel_rfl
@[simp] theorem zeroL43 : zeroL Try.prog 43 = some (cellL zeroM) := by kernel_rfl

end Go.Proofs.Ytmiicjgbhkjocaa
