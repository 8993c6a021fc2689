/-
  Facts on the types of the program: how many cells each has, and its zero value. Printed by a program (mkfacts). Conditions: none.
-/
import Derived.Test.YtclbanhoiaieaaaGreatDoorProg
import Derived.Test.YtclbanhoiaieaaaGreatDoorMvc
import Derived.Test.YtclbanhoiaieaaaGreatDoorSwvc
import Derived.KernelRfl
set_option maxRecDepth 100000
namespace Go.Proofs.YtclbanhoiaieaaaGreatDoor
open Go Go.Sx

theorem hmx : Tryz.prog.follows .mixedOrders = true := by kernel_rfl
@[simp] theorem cellsOf0 : Tryz.prog.cellsOf 0 = 1 := by kernel_rfl
@[simp] theorem cellsOf1 : Tryz.prog.cellsOf 1 = 1 := by kernel_rfl
@[simp] theorem cellsOf2 : Tryz.prog.cellsOf 2 = 1 := by kernel_rfl
@[simp] theorem cellsOf3 : Tryz.prog.cellsOf 3 = 1 := by kernel_rfl
@[simp] theorem cellsOf4 : Tryz.prog.cellsOf 4 = 1 := by kernel_rfl
@[simp] theorem cellsOf5 : Tryz.prog.cellsOf 5 = 1 := by kernel_rfl
@[simp] theorem cellsOf6 : Tryz.prog.cellsOf 6 = 1 := by kernel_rfl
@[simp] theorem cellsOf7 : Tryz.prog.cellsOf 7 = 4 := by kernel_rfl
@[simp] theorem cellsOf8 : Tryz.prog.cellsOf 8 = 4 := by kernel_rfl
@[simp] theorem cellsOf9 : Tryz.prog.cellsOf 9 = 1 := by kernel_rfl
@[simp] theorem cellsOf10 : Tryz.prog.cellsOf 10 = 1 := by kernel_rfl
@[simp] theorem cellsOf11 : Tryz.prog.cellsOf 11 = 1 := by kernel_rfl
@[simp] theorem cellsOf12 : Tryz.prog.cellsOf 12 = 1 := by kernel_rfl
@[simp] theorem cellsOf13 : Tryz.prog.cellsOf 13 = 2 := by kernel_rfl
@[simp] theorem cellsOf14 : Tryz.prog.cellsOf 14 = 2 := by kernel_rfl
@[simp] theorem cellsOf15 : Tryz.prog.cellsOf 15 = 1 := by kernel_rfl
@[simp] theorem cellsOf16 : Tryz.prog.cellsOf 16 = 1 := by kernel_rfl
@[simp] theorem cellsOf17 : Tryz.prog.cellsOf 17 = 1 := by kernel_rfl
@[simp] theorem cellsOf18 : Tryz.prog.cellsOf 18 = 1 := by kernel_rfl
@[simp] theorem cellsOf19 : Tryz.prog.cellsOf 19 = 1 := by kernel_rfl
@[simp] theorem cellsOf20 : Tryz.prog.cellsOf 20 = 1 := by kernel_rfl
@[simp] theorem cellsOf21 : Tryz.prog.cellsOf 21 = 1 := by kernel_rfl
@[simp] theorem cellsOf22 : Tryz.prog.cellsOf 22 = 1 := by kernel_rfl
@[simp] theorem cellsOf23 : Tryz.prog.cellsOf 23 = 1 := by kernel_rfl
@[simp] theorem cellsOf24 : Tryz.prog.cellsOf 24 = 1 := by kernel_rfl
@[simp] theorem cellsOf25 : Tryz.prog.cellsOf 25 = 2 := by kernel_rfl
@[simp] theorem cellsOf26 : Tryz.prog.cellsOf 26 = 2 := by kernel_rfl
@[simp] theorem cellsOf27 : Tryz.prog.cellsOf 27 = 32 := by kernel_rfl
@[simp] theorem cellsOf28 : Tryz.prog.cellsOf 28 = 3 := by kernel_rfl
@[simp] theorem cellsOf29 : Tryz.prog.cellsOf 29 = 3 := by kernel_rfl
@[simp] theorem cellsOf30 : Tryz.prog.cellsOf 30 = 48 := by kernel_rfl
@[simp] theorem cellsOf31 : Tryz.prog.cellsOf 31 = 1 := by kernel_rfl
@[simp] theorem cellsOf32 : Tryz.prog.cellsOf 32 = 32 := by kernel_rfl
@[simp] theorem cellsOf33 : Tryz.prog.cellsOf 33 = 1 := by kernel_rfl
@[simp] theorem cellsOf34 : Tryz.prog.cellsOf 34 = 16 := by kernel_rfl
@[simp] theorem cellsOf35 : Tryz.prog.cellsOf 35 = 136 := by kernel_rfl
@[simp] theorem cellsOf36 : Tryz.prog.cellsOf 36 = 136 := by kernel_rfl
@[simp] theorem cellsOf37 : Tryz.prog.cellsOf 37 = 1 := by kernel_rfl
@[simp] theorem cellsOf38 : Tryz.prog.cellsOf 38 = 1 := by kernel_rfl
@[simp] theorem cellsOf39 : Tryz.prog.cellsOf 39 = 1 := by kernel_rfl
@[simp] theorem cellsOf40 : Tryz.prog.cellsOf 40 = 1 := by kernel_rfl
@[simp] theorem cellsOf41 : Tryz.prog.cellsOf 41 = 1 := by kernel_rfl
@[simp] theorem cellsOf42 : Tryz.prog.cellsOf 42 = 1 := by kernel_rfl
@[simp] theorem cellsOf43 : Tryz.prog.cellsOf 43 = 1 := by kernel_rfl
@[simp] theorem cellsOf44 : Tryz.prog.cellsOf 44 = 1 := by kernel_rfl
@[simp] theorem cellsOf45 : Tryz.prog.cellsOf 45 = 1 := by kernel_rfl
@[simp] theorem cellsOf46 : Tryz.prog.cellsOf 46 = 1 := by kernel_rfl
@[simp] theorem cellsOf47 : Tryz.prog.cellsOf 47 = 2 := by kernel_rfl
@[simp] theorem cellsOf48 : Tryz.prog.cellsOf 48 = 2 := by kernel_rfl
@[simp] theorem cellsOf49 : Tryz.prog.cellsOf 49 = 1 := by kernel_rfl
@[simp] theorem cellsOf50 : Tryz.prog.cellsOf 50 = 1 := by kernel_rfl
@[simp] theorem cellsOf51 : Tryz.prog.cellsOf 51 = 1 := by kernel_rfl
@[simp] theorem cellsOf52 : Tryz.prog.cellsOf 52 = 1 := by kernel_rfl
@[simp] theorem cellsOf53 : Tryz.prog.cellsOf 53 = 1 := by kernel_rfl
@[simp] theorem cellsOf54 : Tryz.prog.cellsOf 54 = 2 := by kernel_rfl
@[simp] theorem cellsOf55 : Tryz.prog.cellsOf 55 = 2 := by kernel_rfl
@[simp] theorem cellsOf56 : Tryz.prog.cellsOf 56 = 3 := by kernel_rfl
@[simp] theorem cellsOf57 : Tryz.prog.cellsOf 57 = 3 := by kernel_rfl
@[simp] theorem cellsOf58 : Tryz.prog.cellsOf 58 = 1 := by kernel_rfl
@[simp] theorem cellsOf59 : Tryz.prog.cellsOf 59 = 1 := by kernel_rfl
@[simp] theorem cellsOf60 : Tryz.prog.cellsOf 60 = 1 := by kernel_rfl
@[simp] theorem cellsOf61 : Tryz.prog.cellsOf 61 = 1 := by kernel_rfl
@[simp] theorem cellsOf62 : Tryz.prog.cellsOf 62 = 1 := by kernel_rfl
@[simp] theorem cellsOf63 : Tryz.prog.cellsOf 63 = 1 := by kernel_rfl
@[simp] theorem cellsOf64 : Tryz.prog.cellsOf 64 = 1 := by kernel_rfl
@[simp] theorem cellsOf65 : Tryz.prog.cellsOf 65 = 1 := by kernel_rfl
@[simp] theorem cellsOf66 : Tryz.prog.cellsOf 66 = 1 := by kernel_rfl
@[simp] theorem cellsOf67 : Tryz.prog.cellsOf 67 = 1 := by kernel_rfl
@[simp] theorem cellsOf68 : Tryz.prog.cellsOf 68 = 1 := by kernel_rfl
@[simp] theorem cellsOf69 : Tryz.prog.cellsOf 69 = 1 := by kernel_rfl
@[simp] theorem cellsOf70 : Tryz.prog.cellsOf 70 = 1 := by kernel_rfl
@[simp] theorem cellsOf71 : Tryz.prog.cellsOf 71 = 1 := by kernel_rfl
@[simp] theorem cellsOf72 : Tryz.prog.cellsOf 72 = 1 := by kernel_rfl
@[simp] theorem cellsOf73 : Tryz.prog.cellsOf 73 = 1 := by kernel_rfl
@[simp] theorem cellsOf74 : Tryz.prog.cellsOf 74 = 1 := by kernel_rfl
@[simp] theorem cellsOf75 : Tryz.prog.cellsOf 75 = 1 := by kernel_rfl
@[simp] theorem cellsOf76 : Tryz.prog.cellsOf 76 = 1 := by kernel_rfl
@[simp] theorem cellsOf77 : Tryz.prog.cellsOf 77 = 1 := by kernel_rfl
@[simp] theorem cellsOf78 : Tryz.prog.cellsOf 78 = 1 := by kernel_rfl
@[simp] theorem cellsOf79 : Tryz.prog.cellsOf 79 = 1 := by kernel_rfl
@[simp] theorem cellsOf80 : Tryz.prog.cellsOf 80 = 1 := by kernel_rfl
@[simp] theorem cellsOf81 : Tryz.prog.cellsOf 81 = 1 := by kernel_rfl
@[simp] theorem cellsOf82 : Tryz.prog.cellsOf 82 = 1 := by kernel_rfl
@[simp] theorem cellsOf83 : Tryz.prog.cellsOf 83 = 1 := by kernel_rfl
@[simp] theorem cellsOf84 : Tryz.prog.cellsOf 84 = 1 := by kernel_rfl
@[simp] theorem cellsOf85 : Tryz.prog.cellsOf 85 = 1 := by kernel_rfl
@[simp] theorem cellsOf86 : Tryz.prog.cellsOf 86 = 1 := by kernel_rfl
@[simp] theorem cellsOf87 : Tryz.prog.cellsOf 87 = 1 := by kernel_rfl
@[simp] theorem cellsOf88 : Tryz.prog.cellsOf 88 = 1 := by kernel_rfl
@[simp] theorem cellsOf89 : Tryz.prog.cellsOf 89 = 1 := by kernel_rfl
@[simp] theorem cellsOf90 : Tryz.prog.cellsOf 90 = 3 := by kernel_rfl
@[simp] theorem cellsOf91 : Tryz.prog.cellsOf 91 = 3 := by kernel_rfl
@[simp] theorem cellsOf92 : Tryz.prog.cellsOf 92 = 1 := by kernel_rfl
@[simp] theorem cellsOf93 : Tryz.prog.cellsOf 93 = 1 := by kernel_rfl
@[simp] theorem cellsOf94 : Tryz.prog.cellsOf 94 = 1 := by kernel_rfl
@[simp] theorem cellsOf95 : Tryz.prog.cellsOf 95 = 1 := by kernel_rfl
@[simp] theorem cellsOf96 : Tryz.prog.cellsOf 96 = 1 := by kernel_rfl
@[simp] theorem cellsOf97 : Tryz.prog.cellsOf 97 = 1 := by kernel_rfl
@[simp] theorem cellsOf98 : Tryz.prog.cellsOf 98 = 1 := by kernel_rfl
@[simp] theorem cellsOf99 : Tryz.prog.cellsOf 99 = 1 := by kernel_rfl
@[simp] theorem cellsOf100 : Tryz.prog.cellsOf 100 = 1 := by kernel_rfl
@[simp] theorem cellsOf101 : Tryz.prog.cellsOf 101 = 1 := by kernel_rfl
@[simp] theorem cellsOf102 : Tryz.prog.cellsOf 102 = 1 := by kernel_rfl
@[simp] theorem cellsOf103 : Tryz.prog.cellsOf 103 = 1 := by kernel_rfl
@[simp] theorem cellsOf104 : Tryz.prog.cellsOf 104 = 1 := by kernel_rfl
@[simp] theorem cellsOf105 : Tryz.prog.cellsOf 105 = 1 := by kernel_rfl
@[simp] theorem cellsOf106 : Tryz.prog.cellsOf 106 = 1 := by kernel_rfl
@[simp] theorem cellsOf107 : Tryz.prog.cellsOf 107 = 1 := by kernel_rfl
@[simp] theorem cellsOf108 : Tryz.prog.cellsOf 108 = 1 := by kernel_rfl
@[simp] theorem cellsOf109 : Tryz.prog.cellsOf 109 = 1 := by kernel_rfl
@[simp] theorem cellsOf110 : Tryz.prog.cellsOf 110 = 1 := by kernel_rfl
@[simp] theorem cellsOf111 : Tryz.prog.cellsOf 111 = 1 := by kernel_rfl
@[simp] theorem cellsOf112 : Tryz.prog.cellsOf 112 = 1 := by kernel_rfl
@[simp] theorem cellsOf113 : Tryz.prog.cellsOf 113 = 1 := by kernel_rfl
@[simp] theorem cellsOf114 : Tryz.prog.cellsOf 114 = 1 := by kernel_rfl
@[simp] theorem cellsOf115 : Tryz.prog.cellsOf 115 = 1 := by kernel_rfl
@[simp] theorem cellsOf116 : Tryz.prog.cellsOf 116 = 1 := by kernel_rfl
@[simp] theorem cellsOf117 : Tryz.prog.cellsOf 117 = 1 := by kernel_rfl
@[simp] theorem cellsOf118 : Tryz.prog.cellsOf 118 = 1 := by kernel_rfl
@[simp] theorem cellsOf119 : Tryz.prog.cellsOf 119 = 1 := by kernel_rfl
@[simp] theorem cellsOf120 : Tryz.prog.cellsOf 120 = 1 := by kernel_rfl
@[simp] theorem cellsOf121 : Tryz.prog.cellsOf 121 = 1 := by kernel_rfl
@[simp] theorem cellsOf122 : Tryz.prog.cellsOf 122 = 1 := by kernel_rfl
@[simp] theorem cellsOf123 : Tryz.prog.cellsOf 123 = 17 := by kernel_rfl
@[simp] theorem cellsOf124 : Tryz.prog.cellsOf 124 = 1 := by kernel_rfl
@[simp] theorem cellsOf125 : Tryz.prog.cellsOf 125 = 1 := by kernel_rfl
@[simp] theorem cellsOf126 : Tryz.prog.cellsOf 126 = 1 := by kernel_rfl
@[simp] theorem cellsOf127 : Tryz.prog.cellsOf 127 = 1 := by kernel_rfl
@[simp] theorem cellsOf128 : Tryz.prog.cellsOf 128 = 1 := by kernel_rfl
@[simp] theorem cellsOf129 : Tryz.prog.cellsOf 129 = 1 := by kernel_rfl
@[simp] theorem cellsOf130 : Tryz.prog.cellsOf 130 = 1 := by kernel_rfl
@[simp] theorem cellsOf131 : Tryz.prog.cellsOf 131 = 1 := by kernel_rfl
@[simp] theorem cellsOf132 : Tryz.prog.cellsOf 132 = 1 := by kernel_rfl
@[simp] theorem cellsOf133 : Tryz.prog.cellsOf 133 = 1 := by kernel_rfl
@[simp] theorem cellsOf134 : Tryz.prog.cellsOf 134 = 1 := by kernel_rfl
@[simp] theorem cellsOf135 : Tryz.prog.cellsOf 135 = 1 := by kernel_rfl
@[simp] theorem cellsOf136 : Tryz.prog.cellsOf 136 = 1 := by kernel_rfl
@[simp] theorem cellsOf137 : Tryz.prog.cellsOf 137 = 1 := by kernel_rfl
@[simp] theorem cellsOf138 : Tryz.prog.cellsOf 138 = 1 := by kernel_rfl
@[simp] theorem cellsOf139 : Tryz.prog.cellsOf 139 = 1 := by kernel_rfl
@[simp] theorem cellsOf140 : Tryz.prog.cellsOf 140 = 1 := by kernel_rfl
@[simp] theorem cellsOf141 : Tryz.prog.cellsOf 141 = 1 := by kernel_rfl
@[simp] theorem cellsOf142 : Tryz.prog.cellsOf 142 = 1 := by kernel_rfl
@[simp] theorem cellsOf143 : Tryz.prog.cellsOf 143 = 1 := by kernel_rfl
@[simp] theorem cellsOf144 : Tryz.prog.cellsOf 144 = 1 := by kernel_rfl
@[simp] theorem cellsOf145 : Tryz.prog.cellsOf 145 = 1 := by kernel_rfl
@[simp] theorem cellsOf146 : Tryz.prog.cellsOf 146 = 1 := by kernel_rfl
@[simp] theorem cellsOf147 : Tryz.prog.cellsOf 147 = 1 := by kernel_rfl
@[simp] theorem cellsOf148 : Tryz.prog.cellsOf 148 = 1 := by kernel_rfl
@[simp] theorem cellsOf149 : Tryz.prog.cellsOf 149 = 1 := by kernel_rfl
@[simp] theorem cellsOf150 : Tryz.prog.cellsOf 150 = 1 := by kernel_rfl
@[simp] theorem cellsOf151 : Tryz.prog.cellsOf 151 = 1 := by kernel_rfl
@[simp] theorem cellsOf152 : Tryz.prog.cellsOf 152 = 1 := by kernel_rfl
@[simp] theorem cellsOf153 : Tryz.prog.cellsOf 153 = 1 := by kernel_rfl
@[simp] theorem cellsOf154 : Tryz.prog.cellsOf 154 = 1 := by kernel_rfl
@[simp] theorem cellsOf155 : Tryz.prog.cellsOf 155 = 1 := by kernel_rfl
@[simp] theorem cellsOf156 : Tryz.prog.cellsOf 156 = 1 := by kernel_rfl
@[simp] theorem cellsOf157 : Tryz.prog.cellsOf 157 = 1 := by kernel_rfl
@[simp] theorem cellsOf158 : Tryz.prog.cellsOf 158 = 1 := by kernel_rfl
@[simp] theorem cellsOf159 : Tryz.prog.cellsOf 159 = 2 := by kernel_rfl
@[simp] theorem cellsOf160 : Tryz.prog.cellsOf 160 = 2 := by kernel_rfl
@[simp] theorem cellsOf161 : Tryz.prog.cellsOf 161 = 10 := by kernel_rfl
@[simp] theorem cellsOf162 : Tryz.prog.cellsOf 162 = 1 := by kernel_rfl
@[simp] theorem cellsOf163 : Tryz.prog.cellsOf 163 = 1 := by kernel_rfl
@[simp] theorem cellsOf164 : Tryz.prog.cellsOf 164 = 4 := by kernel_rfl
@[simp] theorem cellsOf165 : Tryz.prog.cellsOf 165 = 1 := by kernel_rfl
@[simp] theorem cellsOf166 : Tryz.prog.cellsOf 166 = 1 := by kernel_rfl
@[simp] theorem cellsOf167 : Tryz.prog.cellsOf 167 = 2 := by kernel_rfl
@[simp] theorem cellsOf168 : Tryz.prog.cellsOf 168 = 2 := by kernel_rfl
@[simp] theorem cellsOf169 : Tryz.prog.cellsOf 169 = 1 := by kernel_rfl
@[simp] theorem cellsOf170 : Tryz.prog.cellsOf 170 = 1 := by kernel_rfl
@[simp] theorem cellsOf171 : Tryz.prog.cellsOf 171 = 1 := by kernel_rfl
@[simp] theorem cellsOf172 : Tryz.prog.cellsOf 172 = 1 := by kernel_rfl
@[simp] theorem cellsOf173 : Tryz.prog.cellsOf 173 = 1 := by kernel_rfl
@[simp] theorem cellsOf174 : Tryz.prog.cellsOf 174 = 11 := by kernel_rfl
@[simp] theorem cellsOf175 : Tryz.prog.cellsOf 175 = 1 := by kernel_rfl
@[simp] theorem cellsOf176 : Tryz.prog.cellsOf 176 = 1 := by kernel_rfl
@[simp] theorem cellsOf177 : Tryz.prog.cellsOf 177 = 6 := by kernel_rfl
@[simp] theorem cellsOf178 : Tryz.prog.cellsOf 178 = 1 := by kernel_rfl
@[simp] theorem cellsOf179 : Tryz.prog.cellsOf 179 = 1 := by kernel_rfl
@[simp] theorem cellsOf180 : Tryz.prog.cellsOf 180 = 1 := by kernel_rfl
@[simp] theorem cellsOf181 : Tryz.prog.cellsOf 181 = 1 := by kernel_rfl
@[simp] theorem cellsOf182 : Tryz.prog.cellsOf 182 = 1 := by kernel_rfl
@[simp] theorem cellsOf183 : Tryz.prog.cellsOf 183 = 1 := by kernel_rfl
@[simp] theorem cellsOf184 : Tryz.prog.cellsOf 184 = 1 := by kernel_rfl
@[simp] theorem cellsOf185 : Tryz.prog.cellsOf 185 = 1 := by kernel_rfl
@[simp] theorem cellsOf186 : Tryz.prog.cellsOf 186 = 1 := by kernel_rfl
@[simp] theorem cellsOf187 : Tryz.prog.cellsOf 187 = 1 := by kernel_rfl
@[simp] theorem cellsOf188 : Tryz.prog.cellsOf 188 = 1 := by kernel_rfl
@[simp] theorem cellsOf189 : Tryz.prog.cellsOf 189 = 1 := by kernel_rfl
@[simp] theorem cellsOf190 : Tryz.prog.cellsOf 190 = 1 := by kernel_rfl
@[simp] theorem cellsOf191 : Tryz.prog.cellsOf 191 = 1 := by kernel_rfl
@[simp] theorem cellsOf192 : Tryz.prog.cellsOf 192 = 1 := by kernel_rfl
@[simp] theorem cellsOf193 : Tryz.prog.cellsOf 193 = 1 := by kernel_rfl
@[simp] theorem cellsOf194 : Tryz.prog.cellsOf 194 = 1 := by kernel_rfl
@[simp] theorem cellsOf195 : Tryz.prog.cellsOf 195 = 1 := by kernel_rfl
@[simp] theorem cellsOf196 : Tryz.prog.cellsOf 196 = 1 := by kernel_rfl
@[simp] theorem cellsOf197 : Tryz.prog.cellsOf 197 = 1 := by kernel_rfl
@[simp] theorem cellsOf198 : Tryz.prog.cellsOf 198 = 24 := by kernel_rfl
@[simp] theorem cellsOf199 : Tryz.prog.cellsOf 199 = 1 := by kernel_rfl
@[simp] theorem cellsOf200 : Tryz.prog.cellsOf 200 = 1 := by kernel_rfl
@[simp] theorem cellsOf201 : Tryz.prog.cellsOf 201 = 1 := by kernel_rfl
@[simp] theorem cellsOf202 : Tryz.prog.cellsOf 202 = 1 := by kernel_rfl
@[simp] theorem cellsOf203 : Tryz.prog.cellsOf 203 = 1 := by kernel_rfl
@[simp] theorem cellsOf204 : Tryz.prog.cellsOf 204 = 1 := by kernel_rfl
@[simp] theorem cellsOf205 : Tryz.prog.cellsOf 205 = 6 := by kernel_rfl
@[simp] theorem cellsOf206 : Tryz.prog.cellsOf 206 = 6 := by kernel_rfl
@[simp] theorem cellsOf207 : Tryz.prog.cellsOf 207 = 1 := by kernel_rfl
@[simp] theorem cellsOf208 : Tryz.prog.cellsOf 208 = 1 := by kernel_rfl
@[simp] theorem cellsOf209 : Tryz.prog.cellsOf 209 = 1 := by kernel_rfl
@[simp] theorem cellsOf210 : Tryz.prog.cellsOf 210 = 17 := by kernel_rfl
@[simp] theorem cellsOf211 : Tryz.prog.cellsOf 211 = 1 := by kernel_rfl
@[simp] theorem cellsOf212 : Tryz.prog.cellsOf 212 = 1 := by kernel_rfl
@[simp] theorem cellsOf213 : Tryz.prog.cellsOf 213 = 1 := by kernel_rfl
@[simp] theorem cellsOf214 : Tryz.prog.cellsOf 214 = 1 := by kernel_rfl
@[simp] theorem cellsOf215 : Tryz.prog.cellsOf 215 = 1 := by kernel_rfl
@[simp] theorem cellsOf216 : Tryz.prog.cellsOf 216 = 1 := by kernel_rfl
@[simp] theorem cellsOf217 : Tryz.prog.cellsOf 217 = 1 := by kernel_rfl
@[simp] theorem cellsOf218 : Tryz.prog.cellsOf 218 = 1 := by kernel_rfl
@[simp] theorem cellsOf219 : Tryz.prog.cellsOf 219 = 1 := by kernel_rfl
@[simp] theorem cellsOf220 : Tryz.prog.cellsOf 220 = 1 := by kernel_rfl
@[simp] theorem cellsOf221 : Tryz.prog.cellsOf 221 = 1 := by kernel_rfl
@[simp] theorem cellsOf222 : Tryz.prog.cellsOf 222 = 1 := by kernel_rfl
@[simp] theorem cellsOf223 : Tryz.prog.cellsOf 223 = 20 := by kernel_rfl
@[simp] theorem cellsOf224 : Tryz.prog.cellsOf 224 = 65 := by kernel_rfl
@[simp] theorem cellsOf225 : Tryz.prog.cellsOf 225 = 1 := by kernel_rfl
@[simp] theorem cellsOf226 : Tryz.prog.cellsOf 226 = 1 := by kernel_rfl
@[simp] theorem cellsOf227 : Tryz.prog.cellsOf 227 = 1 := by kernel_rfl
@[simp] theorem cellsOf228 : Tryz.prog.cellsOf 228 = 1 := by kernel_rfl
@[simp] theorem cellsOf229 : Tryz.prog.cellsOf 229 = 1 := by kernel_rfl
@[simp] theorem cellsOf230 : Tryz.prog.cellsOf 230 = 3 := by kernel_rfl
@[simp] theorem cellsOf231 : Tryz.prog.cellsOf 231 = 3 := by kernel_rfl
@[simp] theorem cellsOf232 : Tryz.prog.cellsOf 232 = 1 := by kernel_rfl
@[simp] theorem cellsOf233 : Tryz.prog.cellsOf 233 = 1 := by kernel_rfl
@[simp] theorem cellsOf234 : Tryz.prog.cellsOf 234 = 1 := by kernel_rfl
@[simp] theorem cellsOf235 : Tryz.prog.cellsOf 235 = 1 := by kernel_rfl
@[simp] theorem cellsOf236 : Tryz.prog.cellsOf 236 = 1 := by kernel_rfl
@[simp] theorem cellsOf237 : Tryz.prog.cellsOf 237 = 1 := by kernel_rfl
@[simp] theorem cellsOf238 : Tryz.prog.cellsOf 238 = 1 := by kernel_rfl
@[simp] theorem cellsOf239 : Tryz.prog.cellsOf 239 = 1 := by kernel_rfl
@[simp] theorem cellsOf240 : Tryz.prog.cellsOf 240 = 256 := by kernel_rfl
@[simp] theorem cellsOf241 : Tryz.prog.cellsOf 241 = 2 := by kernel_rfl
@[simp] theorem cellsOf242 : Tryz.prog.cellsOf 242 = 2 := by kernel_rfl
@[simp] theorem cellsOf243 : Tryz.prog.cellsOf 243 = 32 := by kernel_rfl
@[simp] theorem cellsOf244 : Tryz.prog.cellsOf 244 = 1 := by kernel_rfl
@[simp] theorem cellsOf245 : Tryz.prog.cellsOf 245 = 1 := by kernel_rfl
@[simp] theorem cellsOf246 : Tryz.prog.cellsOf 246 = 1 := by kernel_rfl
@[simp] theorem cellsOf247 : Tryz.prog.cellsOf 247 = 1 := by kernel_rfl
@[simp] theorem cellsOf248 : Tryz.prog.cellsOf 248 = 32 := by kernel_rfl
@[simp] theorem cellsOf249 : Tryz.prog.cellsOf 249 = 64 := by kernel_rfl
@[simp] theorem cellsOf250 : Tryz.prog.cellsOf 250 = 4 := by kernel_rfl
@[simp] theorem cellsOf251 : Tryz.prog.cellsOf 251 = 4 := by kernel_rfl
@[simp] theorem cellsOf252 : Tryz.prog.cellsOf 252 = 0 := by kernel_rfl
@[simp] theorem cellsOf253 : Tryz.prog.cellsOf 253 = 0 := by kernel_rfl
@[simp] theorem cellsOf254 : Tryz.prog.cellsOf 254 = 0 := by kernel_rfl
@[simp] theorem cellsOf255 : Tryz.prog.cellsOf 255 = 1 := by kernel_rfl
@[simp] theorem cellsOf256 : Tryz.prog.cellsOf 256 = 1 := by kernel_rfl
@[simp] theorem cellsOf257 : Tryz.prog.cellsOf 257 = 1 := by kernel_rfl
@[simp] theorem cellsOf258 : Tryz.prog.cellsOf 258 = 1 := by kernel_rfl
@[simp] theorem cellsOf259 : Tryz.prog.cellsOf 259 = 1 := by kernel_rfl
@[simp] theorem cellsOf260 : Tryz.prog.cellsOf 260 = 11 := by kernel_rfl
@[simp] theorem cellsOf261 : Tryz.prog.cellsOf 261 = 11 := by kernel_rfl
@[simp] theorem cellsOf262 : Tryz.prog.cellsOf 262 = 1 := by kernel_rfl
@[simp] theorem bytesOf0 : bytesOf Tryz.prog 0 = 0 := by kernel_rfl
@[simp] theorem bytesOf1 : bytesOf Tryz.prog 1 = 8 := by kernel_rfl
@[simp] theorem bytesOf2 : bytesOf Tryz.prog 2 = 8 := by kernel_rfl
@[simp] theorem bytesOf3 : bytesOf Tryz.prog 3 = 8 := by kernel_rfl
@[simp] theorem bytesOf4 : bytesOf Tryz.prog 4 = 1 := by kernel_rfl
@[simp] theorem bytesOf5 : bytesOf Tryz.prog 5 = 1 := by kernel_rfl
@[simp] theorem bytesOf6 : bytesOf Tryz.prog 6 = 1 := by kernel_rfl
@[simp] theorem bytesOf7 : bytesOf Tryz.prog 7 = 24 := by kernel_rfl
@[simp] theorem bytesOf8 : bytesOf Tryz.prog 8 = 24 := by kernel_rfl
@[simp] theorem bytesOf9 : bytesOf Tryz.prog 9 = 16 := by kernel_rfl
@[simp] theorem bytesOf10 : bytesOf Tryz.prog 10 = 16 := by kernel_rfl
@[simp] theorem bytesOf11 : bytesOf Tryz.prog 11 = 16 := by kernel_rfl
@[simp] theorem bytesOf12 : bytesOf Tryz.prog 12 = 8 := by kernel_rfl
@[simp] theorem bytesOf13 : bytesOf Tryz.prog 13 = 24 := by kernel_rfl
@[simp] theorem bytesOf14 : bytesOf Tryz.prog 14 = 24 := by kernel_rfl
@[simp] theorem bytesOf15 : bytesOf Tryz.prog 15 = 8 := by kernel_rfl
@[simp] theorem bytesOf16 : bytesOf Tryz.prog 16 = 8 := by kernel_rfl
@[simp] theorem bytesOf17 : bytesOf Tryz.prog 17 = 8 := by kernel_rfl
@[simp] theorem bytesOf18 : bytesOf Tryz.prog 18 = 8 := by kernel_rfl
@[simp] theorem bytesOf19 : bytesOf Tryz.prog 19 = 8 := by kernel_rfl
@[simp] theorem bytesOf20 : bytesOf Tryz.prog 20 = 16 := by kernel_rfl
@[simp] theorem bytesOf21 : bytesOf Tryz.prog 21 = 4 := by kernel_rfl
@[simp] theorem bytesOf22 : bytesOf Tryz.prog 22 = 4 := by kernel_rfl
@[simp] theorem bytesOf23 : bytesOf Tryz.prog 23 = 8 := by kernel_rfl
@[simp] theorem bytesOf24 : bytesOf Tryz.prog 24 = 2 := by kernel_rfl
@[simp] theorem bytesOf25 : bytesOf Tryz.prog 25 = 4 := by kernel_rfl
@[simp] theorem bytesOf26 : bytesOf Tryz.prog 26 = 4 := by kernel_rfl
@[simp] theorem bytesOf27 : bytesOf Tryz.prog 27 = 64 := by kernel_rfl
@[simp] theorem bytesOf28 : bytesOf Tryz.prog 28 = 4 := by kernel_rfl
@[simp] theorem bytesOf29 : bytesOf Tryz.prog 29 = 4 := by kernel_rfl
@[simp] theorem bytesOf30 : bytesOf Tryz.prog 30 = 64 := by kernel_rfl
@[simp] theorem bytesOf31 : bytesOf Tryz.prog 31 = 2 := by kernel_rfl
@[simp] theorem bytesOf32 : bytesOf Tryz.prog 32 = 64 := by kernel_rfl
@[simp] theorem bytesOf33 : bytesOf Tryz.prog 33 = 8 := by kernel_rfl
@[simp] theorem bytesOf34 : bytesOf Tryz.prog 34 = 128 := by kernel_rfl
@[simp] theorem bytesOf35 : bytesOf Tryz.prog 35 = 352 := by kernel_rfl
@[simp] theorem bytesOf36 : bytesOf Tryz.prog 36 = 352 := by kernel_rfl
@[simp] theorem bytesOf37 : bytesOf Tryz.prog 37 = 0 := by kernel_rfl
@[simp] theorem bytesOf38 : bytesOf Tryz.prog 38 = 8 := by kernel_rfl
@[simp] theorem bytesOf39 : bytesOf Tryz.prog 39 = 8 := by kernel_rfl
@[simp] theorem bytesOf40 : bytesOf Tryz.prog 40 = 8 := by kernel_rfl
@[simp] theorem bytesOf41 : bytesOf Tryz.prog 41 = 24 := by kernel_rfl
@[simp] theorem bytesOf42 : bytesOf Tryz.prog 42 = 8 := by kernel_rfl
@[simp] theorem bytesOf43 : bytesOf Tryz.prog 43 = 8 := by kernel_rfl
@[simp] theorem bytesOf44 : bytesOf Tryz.prog 44 = 8 := by kernel_rfl
@[simp] theorem bytesOf45 : bytesOf Tryz.prog 45 = 8 := by kernel_rfl
@[simp] theorem bytesOf46 : bytesOf Tryz.prog 46 = 24 := by kernel_rfl
@[simp] theorem bytesOf47 : bytesOf Tryz.prog 47 = 16 := by kernel_rfl
@[simp] theorem bytesOf48 : bytesOf Tryz.prog 48 = 16 := by kernel_rfl
@[simp] theorem bytesOf49 : bytesOf Tryz.prog 49 = 0 := by kernel_rfl
@[simp] theorem bytesOf50 : bytesOf Tryz.prog 50 = 8 := by kernel_rfl
@[simp] theorem bytesOf51 : bytesOf Tryz.prog 51 = 8 := by kernel_rfl
@[simp] theorem bytesOf52 : bytesOf Tryz.prog 52 = 8 := by kernel_rfl
@[simp] theorem bytesOf53 : bytesOf Tryz.prog 53 = 24 := by kernel_rfl
@[simp] theorem bytesOf54 : bytesOf Tryz.prog 54 = 32 := by kernel_rfl
@[simp] theorem bytesOf55 : bytesOf Tryz.prog 55 = 32 := by kernel_rfl
@[simp] theorem bytesOf56 : bytesOf Tryz.prog 56 = 40 := by kernel_rfl
@[simp] theorem bytesOf57 : bytesOf Tryz.prog 57 = 40 := by kernel_rfl
@[simp] theorem bytesOf58 : bytesOf Tryz.prog 58 = 8 := by kernel_rfl
@[simp] theorem bytesOf59 : bytesOf Tryz.prog 59 = 8 := by kernel_rfl
@[simp] theorem bytesOf60 : bytesOf Tryz.prog 60 = 8 := by kernel_rfl
@[simp] theorem bytesOf61 : bytesOf Tryz.prog 61 = 8 := by kernel_rfl
@[simp] theorem bytesOf62 : bytesOf Tryz.prog 62 = 8 := by kernel_rfl
@[simp] theorem bytesOf63 : bytesOf Tryz.prog 63 = 8 := by kernel_rfl
@[simp] theorem bytesOf64 : bytesOf Tryz.prog 64 = 0 := by kernel_rfl
@[simp] theorem bytesOf65 : bytesOf Tryz.prog 65 = 8 := by kernel_rfl
@[simp] theorem bytesOf66 : bytesOf Tryz.prog 66 = 8 := by kernel_rfl
@[simp] theorem bytesOf67 : bytesOf Tryz.prog 67 = 8 := by kernel_rfl
@[simp] theorem bytesOf68 : bytesOf Tryz.prog 68 = 8 := by kernel_rfl
@[simp] theorem bytesOf69 : bytesOf Tryz.prog 69 = 8 := by kernel_rfl
@[simp] theorem bytesOf70 : bytesOf Tryz.prog 70 = 0 := by kernel_rfl
@[simp] theorem bytesOf71 : bytesOf Tryz.prog 71 = 8 := by kernel_rfl
@[simp] theorem bytesOf72 : bytesOf Tryz.prog 72 = 8 := by kernel_rfl
@[simp] theorem bytesOf73 : bytesOf Tryz.prog 73 = 8 := by kernel_rfl
@[simp] theorem bytesOf74 : bytesOf Tryz.prog 74 = 24 := by kernel_rfl
@[simp] theorem bytesOf75 : bytesOf Tryz.prog 75 = 8 := by kernel_rfl
@[simp] theorem bytesOf76 : bytesOf Tryz.prog 76 = 8 := by kernel_rfl
@[simp] theorem bytesOf77 : bytesOf Tryz.prog 77 = 8 := by kernel_rfl
@[simp] theorem bytesOf78 : bytesOf Tryz.prog 78 = 8 := by kernel_rfl
@[simp] theorem bytesOf79 : bytesOf Tryz.prog 79 = 8 := by kernel_rfl
@[simp] theorem bytesOf80 : bytesOf Tryz.prog 80 = 8 := by kernel_rfl
@[simp] theorem bytesOf81 : bytesOf Tryz.prog 81 = 8 := by kernel_rfl
@[simp] theorem bytesOf82 : bytesOf Tryz.prog 82 = 8 := by kernel_rfl
@[simp] theorem bytesOf83 : bytesOf Tryz.prog 83 = 8 := by kernel_rfl
@[simp] theorem bytesOf84 : bytesOf Tryz.prog 84 = 8 := by kernel_rfl
@[simp] theorem bytesOf85 : bytesOf Tryz.prog 85 = 8 := by kernel_rfl
@[simp] theorem bytesOf86 : bytesOf Tryz.prog 86 = 8 := by kernel_rfl
@[simp] theorem bytesOf87 : bytesOf Tryz.prog 87 = 8 := by kernel_rfl
@[simp] theorem bytesOf88 : bytesOf Tryz.prog 88 = 8 := by kernel_rfl
@[simp] theorem bytesOf89 : bytesOf Tryz.prog 89 = 8 := by kernel_rfl
@[simp] theorem bytesOf90 : bytesOf Tryz.prog 90 = 24 := by kernel_rfl
@[simp] theorem bytesOf91 : bytesOf Tryz.prog 91 = 24 := by kernel_rfl
@[simp] theorem bytesOf92 : bytesOf Tryz.prog 92 = 8 := by kernel_rfl
@[simp] theorem bytesOf93 : bytesOf Tryz.prog 93 = 8 := by kernel_rfl
@[simp] theorem bytesOf94 : bytesOf Tryz.prog 94 = 8 := by kernel_rfl
@[simp] theorem bytesOf95 : bytesOf Tryz.prog 95 = 8 := by kernel_rfl
@[simp] theorem bytesOf96 : bytesOf Tryz.prog 96 = 8 := by kernel_rfl
@[simp] theorem bytesOf97 : bytesOf Tryz.prog 97 = 8 := by kernel_rfl
@[simp] theorem bytesOf98 : bytesOf Tryz.prog 98 = 8 := by kernel_rfl
@[simp] theorem bytesOf99 : bytesOf Tryz.prog 99 = 8 := by kernel_rfl
@[simp] theorem bytesOf100 : bytesOf Tryz.prog 100 = 8 := by kernel_rfl
@[simp] theorem bytesOf101 : bytesOf Tryz.prog 101 = 8 := by kernel_rfl
@[simp] theorem bytesOf102 : bytesOf Tryz.prog 102 = 8 := by kernel_rfl
@[simp] theorem bytesOf103 : bytesOf Tryz.prog 103 = 8 := by kernel_rfl
@[simp] theorem bytesOf104 : bytesOf Tryz.prog 104 = 24 := by kernel_rfl
@[simp] theorem bytesOf105 : bytesOf Tryz.prog 105 = 8 := by kernel_rfl
@[simp] theorem bytesOf106 : bytesOf Tryz.prog 106 = 0 := by kernel_rfl
@[simp] theorem bytesOf107 : bytesOf Tryz.prog 107 = 8 := by kernel_rfl
@[simp] theorem bytesOf108 : bytesOf Tryz.prog 108 = 8 := by kernel_rfl
@[simp] theorem bytesOf109 : bytesOf Tryz.prog 109 = 8 := by kernel_rfl
@[simp] theorem bytesOf110 : bytesOf Tryz.prog 110 = 8 := by kernel_rfl
@[simp] theorem bytesOf111 : bytesOf Tryz.prog 111 = 8 := by kernel_rfl
@[simp] theorem bytesOf112 : bytesOf Tryz.prog 112 = 8 := by kernel_rfl
@[simp] theorem bytesOf113 : bytesOf Tryz.prog 113 = 8 := by kernel_rfl
@[simp] theorem bytesOf114 : bytesOf Tryz.prog 114 = 8 := by kernel_rfl
@[simp] theorem bytesOf115 : bytesOf Tryz.prog 115 = 8 := by kernel_rfl
@[simp] theorem bytesOf116 : bytesOf Tryz.prog 116 = 8 := by kernel_rfl
@[simp] theorem bytesOf117 : bytesOf Tryz.prog 117 = 8 := by kernel_rfl
@[simp] theorem bytesOf118 : bytesOf Tryz.prog 118 = 8 := by kernel_rfl
@[simp] theorem bytesOf119 : bytesOf Tryz.prog 119 = 8 := by kernel_rfl
@[simp] theorem bytesOf120 : bytesOf Tryz.prog 120 = 0 := by kernel_rfl
@[simp] theorem bytesOf121 : bytesOf Tryz.prog 121 = 8 := by kernel_rfl
@[simp] theorem bytesOf122 : bytesOf Tryz.prog 122 = 8 := by kernel_rfl
@[simp] theorem bytesOf123 : bytesOf Tryz.prog 123 = 272 := by kernel_rfl
@[simp] theorem bytesOf124 : bytesOf Tryz.prog 124 = 8 := by kernel_rfl
@[simp] theorem bytesOf125 : bytesOf Tryz.prog 125 = 8 := by kernel_rfl
@[simp] theorem bytesOf126 : bytesOf Tryz.prog 126 = 0 := by kernel_rfl
@[simp] theorem bytesOf127 : bytesOf Tryz.prog 127 = 8 := by kernel_rfl
@[simp] theorem bytesOf128 : bytesOf Tryz.prog 128 = 8 := by kernel_rfl
@[simp] theorem bytesOf129 : bytesOf Tryz.prog 129 = 8 := by kernel_rfl
@[simp] theorem bytesOf130 : bytesOf Tryz.prog 130 = 8 := by kernel_rfl
@[simp] theorem bytesOf131 : bytesOf Tryz.prog 131 = 0 := by kernel_rfl
@[simp] theorem bytesOf132 : bytesOf Tryz.prog 132 = 8 := by kernel_rfl
@[simp] theorem bytesOf133 : bytesOf Tryz.prog 133 = 0 := by kernel_rfl
@[simp] theorem bytesOf134 : bytesOf Tryz.prog 134 = 8 := by kernel_rfl
@[simp] theorem bytesOf135 : bytesOf Tryz.prog 135 = 8 := by kernel_rfl
@[simp] theorem bytesOf136 : bytesOf Tryz.prog 136 = 8 := by kernel_rfl
@[simp] theorem bytesOf137 : bytesOf Tryz.prog 137 = 8 := by kernel_rfl
@[simp] theorem bytesOf138 : bytesOf Tryz.prog 138 = 8 := by kernel_rfl
@[simp] theorem bytesOf139 : bytesOf Tryz.prog 139 = 8 := by kernel_rfl
@[simp] theorem bytesOf140 : bytesOf Tryz.prog 140 = 8 := by kernel_rfl
@[simp] theorem bytesOf141 : bytesOf Tryz.prog 141 = 8 := by kernel_rfl
@[simp] theorem bytesOf142 : bytesOf Tryz.prog 142 = 16 := by kernel_rfl
@[simp] theorem bytesOf143 : bytesOf Tryz.prog 143 = 16 := by kernel_rfl
@[simp] theorem bytesOf144 : bytesOf Tryz.prog 144 = 0 := by kernel_rfl
@[simp] theorem bytesOf145 : bytesOf Tryz.prog 145 = 8 := by kernel_rfl
@[simp] theorem bytesOf146 : bytesOf Tryz.prog 146 = 8 := by kernel_rfl
@[simp] theorem bytesOf147 : bytesOf Tryz.prog 147 = 8 := by kernel_rfl
@[simp] theorem bytesOf148 : bytesOf Tryz.prog 148 = 8 := by kernel_rfl
@[simp] theorem bytesOf149 : bytesOf Tryz.prog 149 = 8 := by kernel_rfl
@[simp] theorem bytesOf150 : bytesOf Tryz.prog 150 = 0 := by kernel_rfl
@[simp] theorem bytesOf151 : bytesOf Tryz.prog 151 = 8 := by kernel_rfl
@[simp] theorem bytesOf152 : bytesOf Tryz.prog 152 = 0 := by kernel_rfl
@[simp] theorem bytesOf153 : bytesOf Tryz.prog 153 = 8 := by kernel_rfl
@[simp] theorem bytesOf154 : bytesOf Tryz.prog 154 = 8 := by kernel_rfl
@[simp] theorem bytesOf155 : bytesOf Tryz.prog 155 = 8 := by kernel_rfl
@[simp] theorem bytesOf156 : bytesOf Tryz.prog 156 = 8 := by kernel_rfl
@[simp] theorem bytesOf157 : bytesOf Tryz.prog 157 = 8 := by kernel_rfl
@[simp] theorem bytesOf158 : bytesOf Tryz.prog 158 = 8 := by kernel_rfl
@[simp] theorem bytesOf159 : bytesOf Tryz.prog 159 = 32 := by kernel_rfl
@[simp] theorem bytesOf160 : bytesOf Tryz.prog 160 = 32 := by kernel_rfl
@[simp] theorem bytesOf161 : bytesOf Tryz.prog 161 = 80 := by kernel_rfl
@[simp] theorem bytesOf162 : bytesOf Tryz.prog 162 = 8 := by kernel_rfl
@[simp] theorem bytesOf163 : bytesOf Tryz.prog 163 = 8 := by kernel_rfl
@[simp] theorem bytesOf164 : bytesOf Tryz.prog 164 = 64 := by kernel_rfl
@[simp] theorem bytesOf165 : bytesOf Tryz.prog 165 = 8 := by kernel_rfl
@[simp] theorem bytesOf166 : bytesOf Tryz.prog 166 = 8 := by kernel_rfl
@[simp] theorem bytesOf167 : bytesOf Tryz.prog 167 = 32 := by kernel_rfl
@[simp] theorem bytesOf168 : bytesOf Tryz.prog 168 = 32 := by kernel_rfl
@[simp] theorem bytesOf169 : bytesOf Tryz.prog 169 = 8 := by kernel_rfl
@[simp] theorem bytesOf170 : bytesOf Tryz.prog 170 = 0 := by kernel_rfl
@[simp] theorem bytesOf171 : bytesOf Tryz.prog 171 = 8 := by kernel_rfl
@[simp] theorem bytesOf172 : bytesOf Tryz.prog 172 = 8 := by kernel_rfl
@[simp] theorem bytesOf173 : bytesOf Tryz.prog 173 = 8 := by kernel_rfl
@[simp] theorem bytesOf174 : bytesOf Tryz.prog 174 = 176 := by kernel_rfl
@[simp] theorem bytesOf175 : bytesOf Tryz.prog 175 = 8 := by kernel_rfl
@[simp] theorem bytesOf176 : bytesOf Tryz.prog 176 = 8 := by kernel_rfl
@[simp] theorem bytesOf177 : bytesOf Tryz.prog 177 = 96 := by kernel_rfl
@[simp] theorem bytesOf178 : bytesOf Tryz.prog 178 = 8 := by kernel_rfl
@[simp] theorem bytesOf179 : bytesOf Tryz.prog 179 = 8 := by kernel_rfl
@[simp] theorem bytesOf180 : bytesOf Tryz.prog 180 = 8 := by kernel_rfl
@[simp] theorem bytesOf181 : bytesOf Tryz.prog 181 = 8 := by kernel_rfl
@[simp] theorem bytesOf182 : bytesOf Tryz.prog 182 = 8 := by kernel_rfl
@[simp] theorem bytesOf183 : bytesOf Tryz.prog 183 = 8 := by kernel_rfl
@[simp] theorem bytesOf184 : bytesOf Tryz.prog 184 = 8 := by kernel_rfl
@[simp] theorem bytesOf185 : bytesOf Tryz.prog 185 = 8 := by kernel_rfl
@[simp] theorem bytesOf186 : bytesOf Tryz.prog 186 = 8 := by kernel_rfl
@[simp] theorem bytesOf187 : bytesOf Tryz.prog 187 = 8 := by kernel_rfl
@[simp] theorem bytesOf188 : bytesOf Tryz.prog 188 = 8 := by kernel_rfl
@[simp] theorem bytesOf189 : bytesOf Tryz.prog 189 = 8 := by kernel_rfl
@[simp] theorem bytesOf190 : bytesOf Tryz.prog 190 = 8 := by kernel_rfl
@[simp] theorem bytesOf191 : bytesOf Tryz.prog 191 = 8 := by kernel_rfl
@[simp] theorem bytesOf192 : bytesOf Tryz.prog 192 = 8 := by kernel_rfl
@[simp] theorem bytesOf193 : bytesOf Tryz.prog 193 = 8 := by kernel_rfl
@[simp] theorem bytesOf194 : bytesOf Tryz.prog 194 = 8 := by kernel_rfl
@[simp] theorem bytesOf195 : bytesOf Tryz.prog 195 = 8 := by kernel_rfl
@[simp] theorem bytesOf196 : bytesOf Tryz.prog 196 = 8 := by kernel_rfl
@[simp] theorem bytesOf197 : bytesOf Tryz.prog 197 = 8 := by kernel_rfl
@[simp] theorem bytesOf198 : bytesOf Tryz.prog 198 = 24 := by kernel_rfl
@[simp] theorem bytesOf199 : bytesOf Tryz.prog 199 = 8 := by kernel_rfl
@[simp] theorem bytesOf200 : bytesOf Tryz.prog 200 = 8 := by kernel_rfl
@[simp] theorem bytesOf201 : bytesOf Tryz.prog 201 = 0 := by kernel_rfl
@[simp] theorem bytesOf202 : bytesOf Tryz.prog 202 = 8 := by kernel_rfl
@[simp] theorem bytesOf203 : bytesOf Tryz.prog 203 = 8 := by kernel_rfl
@[simp] theorem bytesOf204 : bytesOf Tryz.prog 204 = 8 := by kernel_rfl
@[simp] theorem bytesOf205 : bytesOf Tryz.prog 205 = 56 := by kernel_rfl
@[simp] theorem bytesOf206 : bytesOf Tryz.prog 206 = 56 := by kernel_rfl
@[simp] theorem bytesOf207 : bytesOf Tryz.prog 207 = 8 := by kernel_rfl
@[simp] theorem bytesOf208 : bytesOf Tryz.prog 208 = 8 := by kernel_rfl
@[simp] theorem bytesOf209 : bytesOf Tryz.prog 209 = 8 := by kernel_rfl
@[simp] theorem bytesOf210 : bytesOf Tryz.prog 210 = 136 := by kernel_rfl
@[simp] theorem bytesOf211 : bytesOf Tryz.prog 211 = 8 := by kernel_rfl
@[simp] theorem bytesOf212 : bytesOf Tryz.prog 212 = 8 := by kernel_rfl
@[simp] theorem bytesOf213 : bytesOf Tryz.prog 213 = 8 := by kernel_rfl
@[simp] theorem bytesOf214 : bytesOf Tryz.prog 214 = 0 := by kernel_rfl
@[simp] theorem bytesOf215 : bytesOf Tryz.prog 215 = 8 := by kernel_rfl
@[simp] theorem bytesOf216 : bytesOf Tryz.prog 216 = 8 := by kernel_rfl
@[simp] theorem bytesOf217 : bytesOf Tryz.prog 217 = 8 := by kernel_rfl
@[simp] theorem bytesOf218 : bytesOf Tryz.prog 218 = 8 := by kernel_rfl
@[simp] theorem bytesOf219 : bytesOf Tryz.prog 219 = 8 := by kernel_rfl
@[simp] theorem bytesOf220 : bytesOf Tryz.prog 220 = 8 := by kernel_rfl
@[simp] theorem bytesOf221 : bytesOf Tryz.prog 221 = 8 := by kernel_rfl
@[simp] theorem bytesOf222 : bytesOf Tryz.prog 222 = 8 := by kernel_rfl
@[simp] theorem bytesOf223 : bytesOf Tryz.prog 223 = 160 := by kernel_rfl
@[simp] theorem bytesOf224 : bytesOf Tryz.prog 224 = 65 := by kernel_rfl
@[simp] theorem bytesOf225 : bytesOf Tryz.prog 225 = 8 := by kernel_rfl
@[simp] theorem bytesOf226 : bytesOf Tryz.prog 226 = 8 := by kernel_rfl
@[simp] theorem bytesOf227 : bytesOf Tryz.prog 227 = 8 := by kernel_rfl
@[simp] theorem bytesOf228 : bytesOf Tryz.prog 228 = 8 := by kernel_rfl
@[simp] theorem bytesOf229 : bytesOf Tryz.prog 229 = 8 := by kernel_rfl
@[simp] theorem bytesOf230 : bytesOf Tryz.prog 230 = 48 := by kernel_rfl
@[simp] theorem bytesOf231 : bytesOf Tryz.prog 231 = 48 := by kernel_rfl
@[simp] theorem bytesOf232 : bytesOf Tryz.prog 232 = 8 := by kernel_rfl
@[simp] theorem bytesOf233 : bytesOf Tryz.prog 233 = 8 := by kernel_rfl
@[simp] theorem bytesOf234 : bytesOf Tryz.prog 234 = 8 := by kernel_rfl
@[simp] theorem bytesOf235 : bytesOf Tryz.prog 235 = 0 := by kernel_rfl
@[simp] theorem bytesOf236 : bytesOf Tryz.prog 236 = 8 := by kernel_rfl
@[simp] theorem bytesOf237 : bytesOf Tryz.prog 237 = 8 := by kernel_rfl
@[simp] theorem bytesOf238 : bytesOf Tryz.prog 238 = 0 := by kernel_rfl
@[simp] theorem bytesOf239 : bytesOf Tryz.prog 239 = 8 := by kernel_rfl
@[simp] theorem bytesOf240 : bytesOf Tryz.prog 240 = 256 := by kernel_rfl
@[simp] theorem bytesOf241 : bytesOf Tryz.prog 241 = 2 := by kernel_rfl
@[simp] theorem bytesOf242 : bytesOf Tryz.prog 242 = 2 := by kernel_rfl
@[simp] theorem bytesOf243 : bytesOf Tryz.prog 243 = 32 := by kernel_rfl
@[simp] theorem bytesOf244 : bytesOf Tryz.prog 244 = 8 := by kernel_rfl
@[simp] theorem bytesOf245 : bytesOf Tryz.prog 245 = 16 := by kernel_rfl
@[simp] theorem bytesOf246 : bytesOf Tryz.prog 246 = 16 := by kernel_rfl
@[simp] theorem bytesOf247 : bytesOf Tryz.prog 247 = 8 := by kernel_rfl
@[simp] theorem bytesOf248 : bytesOf Tryz.prog 248 = 32 := by kernel_rfl
@[simp] theorem bytesOf249 : bytesOf Tryz.prog 249 = 64 := by kernel_rfl
@[simp] theorem bytesOf250 : bytesOf Tryz.prog 250 = 40 := by kernel_rfl
@[simp] theorem bytesOf251 : bytesOf Tryz.prog 251 = 40 := by kernel_rfl
@[simp] theorem bytesOf252 : bytesOf Tryz.prog 252 = 0 := by kernel_rfl
@[simp] theorem bytesOf253 : bytesOf Tryz.prog 253 = 0 := by kernel_rfl
@[simp] theorem bytesOf254 : bytesOf Tryz.prog 254 = 0 := by kernel_rfl
@[simp] theorem bytesOf255 : bytesOf Tryz.prog 255 = 1 := by kernel_rfl
@[simp] theorem bytesOf256 : bytesOf Tryz.prog 256 = 1 := by kernel_rfl
@[simp] theorem bytesOf257 : bytesOf Tryz.prog 257 = 8 := by kernel_rfl
@[simp] theorem bytesOf258 : bytesOf Tryz.prog 258 = 4 := by kernel_rfl
@[simp] theorem bytesOf259 : bytesOf Tryz.prog 259 = 4 := by kernel_rfl
@[simp] theorem bytesOf260 : bytesOf Tryz.prog 260 = 48 := by kernel_rfl
@[simp] theorem bytesOf261 : bytesOf Tryz.prog 261 = 48 := by kernel_rfl
@[simp] theorem bytesOf262 : bytesOf Tryz.prog 262 = 8 := by kernel_rfl
@[simp] theorem zeroL2 : zeroL Tryz.prog 2 = some [.int .i64 0] := by kernel_rfl
@[simp] theorem zeroL3 : zeroL Tryz.prog 3 = some [.int .i64 0] := by kernel_rfl
@[simp] theorem zeroL4 : zeroL Tryz.prog 4 = some [.bool false] := by kernel_rfl
@[simp] theorem zeroL5 : zeroL Tryz.prog 5 = some [.int .u8 0] := by kernel_rfl
@[simp] theorem zeroL6 : zeroL Tryz.prog 6 = some [.int .u8 0] := by kernel_rfl
@[simp] theorem zeroL7 : zeroL Tryz.prog 7 = some [.int .i64 0, .int .i64 0, .bool false, .int .u8 0] := by kernel_rfl
@[simp] theorem zeroL8 : zeroL Tryz.prog 8 = some [.int .i64 0, .int .i64 0, .bool false, .int .u8 0] := by kernel_rfl
@[simp] theorem zeroL9 : zeroL Tryz.prog 9 = some [.string ByteArray.empty] := by kernel_rfl
@[simp] theorem zeroL10 : zeroL Tryz.prog 10 = some [.string ByteArray.empty] := by kernel_rfl
@[simp] theorem zeroL11 : zeroL Tryz.prog 11 = some [.string ByteArray.empty] := by kernel_rfl
@[simp] theorem zeroL12 : zeroL Tryz.prog 12 = some [.int .u64 0] := by kernel_rfl
@[simp] theorem zeroL13 : zeroL Tryz.prog 13 = some [.string ByteArray.empty, .int .u64 0] := by kernel_rfl
@[simp] theorem zeroL14 : zeroL Tryz.prog 14 = some [.string ByteArray.empty, .int .u64 0] := by kernel_rfl
@[simp] theorem zeroL15 : zeroL Tryz.prog 15 = some [.pointer none] := by kernel_rfl
@[simp] theorem zeroL16 : zeroL Tryz.prog 16 = some [.pointer none] := by kernel_rfl
@[simp] theorem zeroL17 : zeroL Tryz.prog 17 = some [.pointer none] := by kernel_rfl
@[simp] theorem zeroL18 : zeroL Tryz.prog 18 = some [.pointer none] := by kernel_rfl
@[simp] theorem zeroL19 : zeroL Tryz.prog 19 = some [.pointer none] := by kernel_rfl
@[simp] theorem zeroL20 : zeroL Tryz.prog 20 = some [.nilIface] := by kernel_rfl
@[simp] theorem zeroL21 : zeroL Tryz.prog 21 = some [.int .i32 0] := by kernel_rfl
@[simp] theorem zeroL22 : zeroL Tryz.prog 22 = some [.int .u32 0] := by kernel_rfl
@[simp] theorem zeroL23 : zeroL Tryz.prog 23 = some [.int .u64 0] := by kernel_rfl
@[simp] theorem zeroL24 : zeroL Tryz.prog 24 = some [.int .u16 0] := by kernel_rfl
@[simp] theorem zeroL25 : zeroL Tryz.prog 25 = some [.bool false, .int .u16 0] := by kernel_rfl
@[simp] theorem zeroL26 : zeroL Tryz.prog 26 = some [.bool false, .int .u16 0] := by kernel_rfl
@[simp] theorem zeroL27 : zeroL Tryz.prog 27 = some [.bool false, .int .u16 0, .bool false, .int .u16 0, .bool false, .int .u16 0, .bool false, .int .u16 0, .bool false, .int .u16 0, .bool false, .int .u16 0, .bool false, .int .u16 0, .bool false, .int .u16 0, .bool false, .int .u16 0, .bool false, .int .u16 0, .bool false, .int .u16 0, .bool false, .int .u16 0, .bool false, .int .u16 0, .bool false, .int .u16 0, .bool false, .int .u16 0, .bool false, .int .u16 0] := by kernel_rfl
@[simp] theorem zeroL28 : zeroL Tryz.prog 28 = some [.bool false, .bool false, .int .u16 0] := by kernel_rfl
@[simp] theorem zeroL29 : zeroL Tryz.prog 29 = some [.bool false, .bool false, .int .u16 0] := by kernel_rfl
@[simp] theorem zeroL30 : zeroL Tryz.prog 30 = some [.bool false, .bool false, .int .u16 0, .bool false, .bool false, .int .u16 0, .bool false, .bool false, .int .u16 0, .bool false, .bool false, .int .u16 0, .bool false, .bool false, .int .u16 0, .bool false, .bool false, .int .u16 0, .bool false, .bool false, .int .u16 0, .bool false, .bool false, .int .u16 0, .bool false, .bool false, .int .u16 0, .bool false, .bool false, .int .u16 0, .bool false, .bool false, .int .u16 0, .bool false, .bool false, .int .u16 0, .bool false, .bool false, .int .u16 0, .bool false, .bool false, .int .u16 0, .bool false, .bool false, .int .u16 0, .bool false, .bool false, .int .u16 0] := by kernel_rfl
@[simp] theorem zeroL31 : zeroL Tryz.prog 31 = some [.int .i16 0] := by kernel_rfl
@[simp] theorem zeroL32 : zeroL Tryz.prog 32 = some [.int .i16 0, .int .i16 0, .int .i16 0, .int .i16 0, .int .i16 0, .int .i16 0, .int .i16 0, .int .i16 0, .int .i16 0, .int .i16 0, .int .i16 0, .int .i16 0, .int .i16 0, .int .i16 0, .int .i16 0, .int .i16 0, .int .i16 0, .int .i16 0, .int .i16 0, .int .i16 0, .int .i16 0, .int .i16 0, .int .i16 0, .int .i16 0, .int .i16 0, .int .i16 0, .int .i16 0, .int .i16 0, .int .i16 0, .int .i16 0, .int .i16 0, .int .i16 0] := by kernel_rfl
@[simp] theorem zeroL33 : zeroL Tryz.prog 33 = some [.float .f64 0] := by kernel_rfl
@[simp] theorem zeroL34 : zeroL Tryz.prog 34 = some [.float .f64 0, .float .f64 0, .float .f64 0, .float .f64 0, .float .f64 0, .float .f64 0, .float .f64 0, .float .f64 0, .float .f64 0, .float .f64 0, .float .f64 0, .float .f64 0, .float .f64 0, .float .f64 0, .float .f64 0, .float .f64 0] := by kernel_rfl
@[simp] theorem zeroL41 : zeroL Tryz.prog 41 = some [.slice none 0 0] := by kernel_rfl
@[simp] theorem zeroL46 : zeroL Tryz.prog 46 = some [.slice none 0 0] := by kernel_rfl
@[simp] theorem zeroL47 : zeroL Tryz.prog 47 = some [.int .i64 0, .int .i64 0] := by kernel_rfl
@[simp] theorem zeroL48 : zeroL Tryz.prog 48 = some [.int .i64 0, .int .i64 0] := by kernel_rfl
@[simp] theorem zeroL53 : zeroL Tryz.prog 53 = some [.slice none 0 0] := by kernel_rfl
@[simp] theorem zeroL54 : zeroL Tryz.prog 54 = some [.int .i64 0, .slice none 0 0] := by kernel_rfl
@[simp] theorem zeroL55 : zeroL Tryz.prog 55 = some [.int .i64 0, .slice none 0 0] := by kernel_rfl
@[simp] theorem zeroL56 : zeroL Tryz.prog 56 = some [.int .i64 0, .int .i64 0, .slice none 0 0] := by kernel_rfl
@[simp] theorem zeroL57 : zeroL Tryz.prog 57 = some [.int .i64 0, .int .i64 0, .slice none 0 0] := by kernel_rfl
@[simp] theorem zeroL74 : zeroL Tryz.prog 74 = some [.slice none 0 0] := by kernel_rfl
@[simp] theorem zeroL87 : zeroL Tryz.prog 87 = some [.pointer none] := by kernel_rfl
@[simp] theorem zeroL90 : zeroL Tryz.prog 90 = some [.int .i64 0, .int .i64 0, .int .i64 0] := by kernel_rfl
@[simp] theorem zeroL91 : zeroL Tryz.prog 91 = some [.int .i64 0, .int .i64 0, .int .i64 0] := by kernel_rfl
@[simp] theorem zeroL104 : zeroL Tryz.prog 104 = some [.slice none 0 0] := by kernel_rfl
@[simp] theorem zeroL123 : zeroL Tryz.prog 123 = some [.string ByteArray.empty, .string ByteArray.empty, .string ByteArray.empty, .string ByteArray.empty, .string ByteArray.empty, .string ByteArray.empty, .string ByteArray.empty, .string ByteArray.empty, .string ByteArray.empty, .string ByteArray.empty, .string ByteArray.empty, .string ByteArray.empty, .string ByteArray.empty, .string ByteArray.empty, .string ByteArray.empty, .string ByteArray.empty, .string ByteArray.empty] := by kernel_rfl
@[simp] theorem zeroL141 : zeroL Tryz.prog 141 = some [.pointer none] := by kernel_rfl
@[simp] theorem zeroL142 : zeroL Tryz.prog 142 = some [.nilIface] := by kernel_rfl
@[simp] theorem zeroL143 : zeroL Tryz.prog 143 = some [.nilIface] := by kernel_rfl
@[simp] theorem zeroL146 : zeroL Tryz.prog 146 = some [.int .u64 0] := by kernel_rfl
@[simp] theorem zeroL159 : zeroL Tryz.prog 159 = some [.slice none 0 0, .int .i64 0] := by kernel_rfl
@[simp] theorem zeroL160 : zeroL Tryz.prog 160 = some [.slice none 0 0, .int .i64 0] := by kernel_rfl
@[simp] theorem zeroL161 : zeroL Tryz.prog 161 = some [.int .i64 0, .int .i64 0, .int .i64 0, .int .i64 0, .int .i64 0, .int .i64 0, .int .i64 0, .int .i64 0, .int .i64 0, .int .i64 0] := by kernel_rfl
@[simp] theorem zeroL164 : zeroL Tryz.prog 164 = some [.string ByteArray.empty, .string ByteArray.empty, .string ByteArray.empty, .string ByteArray.empty] := by kernel_rfl
@[simp] theorem zeroL166 : zeroL Tryz.prog 166 = some [.pointer none] := by kernel_rfl
@[simp] theorem zeroL167 : zeroL Tryz.prog 167 = some [.pointer none, .slice none 0 0] := by kernel_rfl
@[simp] theorem zeroL168 : zeroL Tryz.prog 168 = some [.pointer none, .slice none 0 0] := by kernel_rfl
@[simp] theorem zeroL174 : zeroL Tryz.prog 174 = some [.string ByteArray.empty, .string ByteArray.empty, .string ByteArray.empty, .string ByteArray.empty, .string ByteArray.empty, .string ByteArray.empty, .string ByteArray.empty, .string ByteArray.empty, .string ByteArray.empty, .string ByteArray.empty, .string ByteArray.empty] := by kernel_rfl
@[simp] theorem zeroL177 : zeroL Tryz.prog 177 = some [.string ByteArray.empty, .string ByteArray.empty, .string ByteArray.empty, .string ByteArray.empty, .string ByteArray.empty, .string ByteArray.empty] := by kernel_rfl
@[simp] theorem zeroL198 : zeroL Tryz.prog 198 = some [.int .u8 0, .int .u8 0, .int .u8 0, .int .u8 0, .int .u8 0, .int .u8 0, .int .u8 0, .int .u8 0, .int .u8 0, .int .u8 0, .int .u8 0, .int .u8 0, .int .u8 0, .int .u8 0, .int .u8 0, .int .u8 0, .int .u8 0, .int .u8 0, .int .u8 0, .int .u8 0, .int .u8 0, .int .u8 0, .int .u8 0, .int .u8 0] := by kernel_rfl
@[simp] theorem zeroL203 : zeroL Tryz.prog 203 = some [.pointer none] := by kernel_rfl
@[simp] theorem zeroL204 : zeroL Tryz.prog 204 = some [.pointer none] := by kernel_rfl
@[simp] theorem zeroL205 : zeroL Tryz.prog 205 = some [.pointer none, .slice none 0 0, .int .i64 0, .int .i64 0, .bool false, .bool false] := by kernel_rfl
@[simp] theorem zeroL206 : zeroL Tryz.prog 206 = some [.pointer none, .slice none 0 0, .int .i64 0, .int .i64 0, .bool false, .bool false] := by kernel_rfl
@[simp] theorem zeroL210 : zeroL Tryz.prog 210 = some [.int .i64 0, .int .i64 0, .int .i64 0, .int .i64 0, .int .i64 0, .int .i64 0, .int .i64 0, .int .i64 0, .int .i64 0, .int .i64 0, .int .i64 0, .int .i64 0, .int .i64 0, .int .i64 0, .int .i64 0, .int .i64 0, .int .i64 0] := by kernel_rfl
@[simp] theorem zeroL216 : zeroL Tryz.prog 216 = some [.int .i64 0] := by kernel_rfl
@[simp] theorem zeroL218 : zeroL Tryz.prog 218 = some [.pointer none] := by kernel_rfl
@[simp] theorem zeroL223 : zeroL Tryz.prog 223 = some [.int .u64 0, .int .u64 0, .int .u64 0, .int .u64 0, .int .u64 0, .int .u64 0, .int .u64 0, .int .u64 0, .int .u64 0, .int .u64 0, .int .u64 0, .int .u64 0, .int .u64 0, .int .u64 0, .int .u64 0, .int .u64 0, .int .u64 0, .int .u64 0, .int .u64 0, .int .u64 0] := by kernel_rfl
@[simp] theorem zeroL226 : zeroL Tryz.prog 226 = some [.pointer none] := by kernel_rfl
@[simp] theorem zeroL230 : zeroL Tryz.prog 230 = some [.string ByteArray.empty, .string ByteArray.empty, .nilIface] := by kernel_rfl
@[simp] theorem zeroL231 : zeroL Tryz.prog 231 = some [.string ByteArray.empty, .string ByteArray.empty, .nilIface] := by kernel_rfl
@[simp] theorem zeroL241 : zeroL Tryz.prog 241 = some [.int .u8 0, .int .u8 0] := by kernel_rfl
@[simp] theorem zeroL242 : zeroL Tryz.prog 242 = some [.int .u8 0, .int .u8 0] := by kernel_rfl
@[simp] theorem zeroL243 : zeroL Tryz.prog 243 = some [.int .u8 0, .int .u8 0, .int .u8 0, .int .u8 0, .int .u8 0, .int .u8 0, .int .u8 0, .int .u8 0, .int .u8 0, .int .u8 0, .int .u8 0, .int .u8 0, .int .u8 0, .int .u8 0, .int .u8 0, .int .u8 0, .int .u8 0, .int .u8 0, .int .u8 0, .int .u8 0, .int .u8 0, .int .u8 0, .int .u8 0, .int .u8 0, .int .u8 0, .int .u8 0, .int .u8 0, .int .u8 0, .int .u8 0, .int .u8 0, .int .u8 0, .int .u8 0] := by kernel_rfl
@[simp] theorem zeroL244 : zeroL Tryz.prog 244 = some [.pointer none] := by kernel_rfl
@[simp] theorem zeroL245 : zeroL Tryz.prog 245 = some [.string ByteArray.empty] := by kernel_rfl
@[simp] theorem zeroL246 : zeroL Tryz.prog 246 = some [.string ByteArray.empty] := by kernel_rfl
@[simp] theorem zeroL248 : zeroL Tryz.prog 248 = some [.int .u8 0, .int .u8 0, .int .u8 0, .int .u8 0, .int .u8 0, .int .u8 0, .int .u8 0, .int .u8 0, .int .u8 0, .int .u8 0, .int .u8 0, .int .u8 0, .int .u8 0, .int .u8 0, .int .u8 0, .int .u8 0, .int .u8 0, .int .u8 0, .int .u8 0, .int .u8 0, .int .u8 0, .int .u8 0, .int .u8 0, .int .u8 0, .int .u8 0, .int .u8 0, .int .u8 0, .int .u8 0, .int .u8 0, .int .u8 0, .int .u8 0, .int .u8 0] := by kernel_rfl
@[simp] theorem zeroL249 : zeroL Tryz.prog 249 = some [.int .u8 0, .int .u8 0, .int .u8 0, .int .u8 0, .int .u8 0, .int .u8 0, .int .u8 0, .int .u8 0, .int .u8 0, .int .u8 0, .int .u8 0, .int .u8 0, .int .u8 0, .int .u8 0, .int .u8 0, .int .u8 0, .int .u8 0, .int .u8 0, .int .u8 0, .int .u8 0, .int .u8 0, .int .u8 0, .int .u8 0, .int .u8 0, .int .u8 0, .int .u8 0, .int .u8 0, .int .u8 0, .int .u8 0, .int .u8 0, .int .u8 0, .int .u8 0, .int .u8 0, .int .u8 0, .int .u8 0, .int .u8 0, .int .u8 0, .int .u8 0, .int .u8 0, .int .u8 0, .int .u8 0, .int .u8 0, .int .u8 0, .int .u8 0, .int .u8 0, .int .u8 0, .int .u8 0, .int .u8 0, .int .u8 0, .int .u8 0, .int .u8 0, .int .u8 0, .int .u8 0, .int .u8 0, .int .u8 0, .int .u8 0, .int .u8 0, .int .u8 0, .int .u8 0, .int .u8 0, .int .u8 0, .int .u8 0, .int .u8 0, .int .u8 0] := by kernel_rfl
@[simp] theorem zeroL250 : zeroL Tryz.prog 250 = some [.pointer none, .pointer none, .pointer none, .string ByteArray.empty] := by kernel_rfl
@[simp] theorem zeroL251 : zeroL Tryz.prog 251 = some [.pointer none, .pointer none, .pointer none, .string ByteArray.empty] := by kernel_rfl
@[simp] theorem zeroL252 : zeroL Tryz.prog 252 = some [] := by kernel_rfl
@[simp] theorem zeroL253 : zeroL Tryz.prog 253 = some [] := by kernel_rfl
@[simp] theorem zeroL254 : zeroL Tryz.prog 254 = some [] := by kernel_rfl
@[simp] theorem zeroL255 : zeroL Tryz.prog 255 = some [.int .u8 0] := by kernel_rfl
@[simp] theorem zeroL256 : zeroL Tryz.prog 256 = some [.int .u8 0] := by kernel_rfl
@[simp] theorem zeroL258 : zeroL Tryz.prog 258 = some [.int .i32 0] := by kernel_rfl
@[simp] theorem zeroL259 : zeroL Tryz.prog 259 = some [.int .i32 0] := by kernel_rfl
@[simp] theorem zeroL35 : zeroL Tryz.prog 35 = some (cellL zeroM) := by kernel_rfl
@[simp] theorem zeroL36 : zeroL Tryz.prog 36 = some (cellL zeroM) := by kernel_rfl

end Go.Proofs.YtclbanhoiaieaaaGreatDoor
