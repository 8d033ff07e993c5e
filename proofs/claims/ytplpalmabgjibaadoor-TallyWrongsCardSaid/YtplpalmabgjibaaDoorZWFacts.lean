/- Closed facts about the types and functions of the program, printed by a program of mine. -/
import Derived.Test.YtplpalmabgjibaaDoorProg
import Derived.Test.YtplpalmabgjibaaDoorZFxRes
import Derived.Test.YtplpalmabgjibaaDoorZFxInv
import Derived.Test.YtplpalmabgjibaaDoorZFxNest
import Derived.KernelRfl
set_option linter.unusedVariables false
set_option linter.unusedSimpArgs false
namespace Go.Proofs.YtplpalmabgjibaaDoor
open Go Go.Fx Go.Proofs
theorem fl93_3 : fldOf Tryd.prog 93 3 = some 3 := by kernel_rfl
theorem ty3 : aggOf Tryd.prog 3 = some false := by kernel_rfl
theorem fl93_4 : fldOf Tryd.prog 93 4 = some 4 := by kernel_rfl
theorem fl93_6 : fldOf Tryd.prog 93 6 = some 6 := by kernel_rfl
theorem fl93_5 : fldOf Tryd.prog 93 5 = some 5 := by kernel_rfl
theorem sc22 : slcOf Tryd.prog 22 = some (33, 7) := by kernel_rfl
theorem in33 : infoOf Tryd.prog 33 = some (some (Value.agg #[I 0, I 0, I 0, I 0, I 0, I 0, I 0]), 7, 56) := by kernel_rfl
theorem in24 : infoOf Tryd.prog 24 = some (some (Value.agg #[I 0, I 0, Value.slice none 0 0]), 3, 40) := by kernel_rfl
theorem fl24_2 : fldOf Tryd.prog 24 2 = some 2 := by kernel_rfl
theorem ty22 : aggOf Tryd.prog 22 = some false := by kernel_rfl
theorem fu55 : funOf Tryd.prog 55 = true := by kernel_rfl
theorem sz22 : sizOf Tryd.prog 22 = some 1 := by kernel_rfl
theorem ty24 : aggOf Tryd.prog 24 = some true := by kernel_rfl
theorem sz24 : sizOf Tryd.prog 24 = some 3 := by kernel_rfl
theorem fu69 : funOf Tryd.prog 69 = true := by kernel_rfl
theorem fl24_0 : fldOf Tryd.prog 24 0 = some 0 := by kernel_rfl
theorem fl33_0 : fldOf Tryd.prog 33 0 = some 0 := by kernel_rfl
theorem fl33_1 : fldOf Tryd.prog 33 1 = some 1 := by kernel_rfl
theorem fl33_2 : fldOf Tryd.prog 33 2 = some 2 := by kernel_rfl
theorem fu75 : funOf Tryd.prog 75 = true := by kernel_rfl
theorem fl33_3 : fldOf Tryd.prog 33 3 = some 3 := by kernel_rfl
theorem fl33_4 : fldOf Tryd.prog 33 4 = some 4 := by kernel_rfl
theorem fl33_5 : fldOf Tryd.prog 33 5 = some 5 := by kernel_rfl
theorem fl33_6 : fldOf Tryd.prog 33 6 = some 6 := by kernel_rfl
theorem fl24_1 : fldOf Tryd.prog 24 1 = some 1 := by kernel_rfl
theorem ty33 : aggOf Tryd.prog 33 = some true := by kernel_rfl
theorem sz33 : sizOf Tryd.prog 33 = some 7 := by kernel_rfl
theorem fu77 : funOf Tryd.prog 77 = true := by kernel_rfl
theorem sc31 : slcOf Tryd.prog 31 = some (3, 1) := by kernel_rfl
theorem fl86_1 : fldOf Tryd.prog 86 1 = some 3 := by kernel_rfl
theorem ty84 : aggOf Tryd.prog 84 = some false := by kernel_rfl
theorem ty115 : aggOf Tryd.prog 115 = some true := by kernel_rfl
theorem sz115 : sizOf Tryd.prog 115 = some 2 := by kernel_rfl
theorem mt84 : mptOf Tryd.prog 84 = some (115, 3) := by kernel_rfl
theorem in3 : infoOf Tryd.prog 3 = some (some (I 0), 1, 8) := by kernel_rfl
theorem zr3_1 : zrow (I 0) (1 * 1) = #[I 0] := by kernel_rfl
theorem fu98 : funOf Tryd.prog 98 = true := by kernel_rfl
theorem in86 : infoOf Tryd.prog 86 = some (some (Value.agg #[I 0, I 0, Value.slice none 0 0, Value.map none]), 4, 48) := by kernel_rfl
theorem st86 : strOf Tryd.prog 86 = some (#[I 0, I 0, Value.slice none 0 0, Value.map none], #[(0, 3), (3, 1)]) := by kernel_rfl
theorem sz86 : sizOf Tryd.prog 86 = some 4 := by kernel_rfl
theorem ty86 : aggOf Tryd.prog 86 = some true := by kernel_rfl
theorem st115 : strOf Tryd.prog 115 = some (#[I 0, I 0], #[(0, 1), (1, 1)]) := by kernel_rfl
theorem fu90 : funOf Tryd.prog 90 = true := by kernel_rfl
theorem fl90_0 : fldOf Tryd.prog 90 0 = some 0 := by kernel_rfl
theorem ty88 : aggOf Tryd.prog 88 = some false := by kernel_rfl
theorem in93 : infoOf Tryd.prog 93 = some (some (Value.agg #[I 0, I 0, I 0, I 0, I 0, I 0, I 0]), 7, 56) := by kernel_rfl
theorem sz93 : sizOf Tryd.prog 93 = some 7 := by kernel_rfl
theorem mixed : Tryd.prog.follows .mixedOrders = true := by kernel_rfl
theorem fl93_1 : fldOf Tryd.prog 93 1 = some 1 := by kernel_rfl
theorem fl93_2 : fldOf Tryd.prog 93 2 = some 2 := by kernel_rfl
theorem ar117 : arrOf Tryd.prog 117 = some (2, 1) := by kernel_rfl
theorem ty116 : aggOf Tryd.prog 116 = some false := by kernel_rfl
theorem ty93 : aggOf Tryd.prog 93 = some true := by kernel_rfl
theorem fu119 : funOf Tryd.prog 119 = true := by kernel_rfl
theorem fu117 : funOf Tryd.prog 117 = true := by kernel_rfl
theorem in90 : infoOf Tryd.prog 90 = some (some (Value.agg #[Value.nilFunc]), 1, 8) := by kernel_rfl
theorem st90 : strOf Tryd.prog 90 = some (#[Value.nilFunc], #[(0, 1)]) := by kernel_rfl
theorem sz90 : sizOf Tryd.prog 90 = some 1 := by kernel_rfl
theorem ty90 : aggOf Tryd.prog 90 = some true := by kernel_rfl
theorem in119 : infoOf Tryd.prog 119 = some (some (Value.agg #[I 0, I 0, I 0, I 0, I 0, I 0, I 0, I 0, I 0]), 9, 72) := by kernel_rfl
theorem ty119 : aggOf Tryd.prog 119 = some true := by kernel_rfl
theorem sz119 : sizOf Tryd.prog 119 = some 9 := by kernel_rfl
theorem fu92 : funOf Tryd.prog 92 = true := by kernel_rfl
theorem fu53 : funOf Tryd.prog 53 = true := by kernel_rfl
theorem fu67 : funOf Tryd.prog 67 = true := by kernel_rfl
theorem fu66 : funOf Tryd.prog 66 = true := by kernel_rfl
theorem fu68 : funOf Tryd.prog 68 = true := by kernel_rfl
theorem in49 : infoOf Tryd.prog 49 = some (some (Value.agg #[I 0, I 0]), 2, 16) := by kernel_rfl
theorem fu97 : funOf Tryd.prog 97 = true := by kernel_rfl
theorem eq119 : eqOk Tryd.prog 119 [.int .i64, .int .i64, .int .i64, .int .i64, .int .i64, .int .i64, .int .i64, .int .i64, .int .i64] := ⟨by kernel_rfl, by kernel_rfl, by kernel_rfl⟩
theorem st49 : strOf Tryd.prog 49 = some (#[I 0, I 0], #[(0, 1), (1, 1)]) := by kernel_rfl
theorem sz49 : sizOf Tryd.prog 49 = some 2 := by kernel_rfl
theorem ty49 : aggOf Tryd.prog 49 = some true := by kernel_rfl
theorem ar119 : arrOf Tryd.prog 119 = some (9, 1) := by kernel_rfl
theorem fu74 : funOf Tryd.prog 74 = true := by kernel_rfl
theorem fu76 : funOf Tryd.prog 76 = true := by kernel_rfl
theorem fl49_0 : fldOf Tryd.prog 49 0 = some 0 := by kernel_rfl
theorem fl49_1 : fldOf Tryd.prog 49 1 = some 1 := by kernel_rfl
theorem fu40 : funOf Tryd.prog 40 = true := by kernel_rfl
theorem fu84 : funOf Tryd.prog 84 = true := by kernel_rfl
theorem fu82 : funOf Tryd.prog 82 = true := by kernel_rfl
theorem fu41 : funOf Tryd.prog 41 = true := by kernel_rfl
theorem zr31_1 : zrow (Value.slice none 0 0) (1 * 1) = #[Value.slice none 0 0] := by kernel_rfl
theorem sc104 : slcOf Tryd.prog 104 = some (31, 1) := by kernel_rfl
theorem in31 : infoOf Tryd.prog 31 = some (some (Value.slice none 0 0), 1, 24) := by kernel_rfl
theorem fu86 : funOf Tryd.prog 86 = true := by kernel_rfl
theorem ty31 : aggOf Tryd.prog 31 = some false := by kernel_rfl
theorem sz3 : sizOf Tryd.prog 3 = some 1 := by kernel_rfl
theorem fu57 : funOf Tryd.prog 57 = true := by kernel_rfl
theorem fu81 : funOf Tryd.prog 81 = true := by kernel_rfl
theorem fu83 : funOf Tryd.prog 83 = true := by kernel_rfl
theorem fu28 : funOf Tryd.prog 28 = true := by kernel_rfl
theorem fu32 : funOf Tryd.prog 32 = true := by kernel_rfl
theorem eq49 : eqOk Tryd.prog 49 [.int .i64, .int .i64] := ⟨by kernel_rfl, by kernel_rfl, by kernel_rfl⟩
theorem fu33 : funOf Tryd.prog 33 = true := by kernel_rfl
theorem eq33 : eqOk Tryd.prog 33 [.int .i64, .int .i64, .int .i64, .int .i64, .int .i64, .int .i64, .int .i64] := ⟨by kernel_rfl, by kernel_rfl, by kernel_rfl⟩
theorem fu60 : funOf Tryd.prog 60 = true := by kernel_rfl
theorem fu93 : funOf Tryd.prog 93 = true := by kernel_rfl
theorem fu70 : funOf Tryd.prog 70 = true := by kernel_rfl
theorem fu100 : funOf Tryd.prog 100 = true := by kernel_rfl
theorem fu95 : funOf Tryd.prog 95 = true := by kernel_rfl
theorem fu72 : funOf Tryd.prog 72 = true := by kernel_rfl
theorem ty94 : aggOf Tryd.prog 94 = some false := by kernel_rfl
theorem fu71 : funOf Tryd.prog 71 = true := by kernel_rfl
theorem in94 : infoOf Tryd.prog 94 = some (some (Value.nilFunc), 1, 8) := by kernel_rfl
theorem sz94 : sizOf Tryd.prog 94 = some 1 := by kernel_rfl
theorem fu73 : funOf Tryd.prog 73 = true := by kernel_rfl
theorem zr33_1 : zrow (Value.agg #[I 0, I 0, I 0, I 0, I 0, I 0, I 0]) (1 * 7) = #[I 0, I 0, I 0, I 0, I 0, I 0, I 0] := by kernel_rfl
theorem fu78 : funOf Tryd.prog 78 = true := by kernel_rfl
theorem st33 : strOf Tryd.prog 33 = some (#[I 0, I 0, I 0, I 0, I 0, I 0, I 0], #[(0, 1), (1, 1), (2, 1), (3, 1), (4, 1), (5, 1), (6, 1)]) := by kernel_rfl
theorem fu37 : funOf Tryd.prog 37 = true := by kernel_rfl
theorem zr33_3 : zrow (Value.agg #[I 0, I 0, I 0, I 0, I 0, I 0, I 0]) (3 * 7) = #[I 0, I 0, I 0, I 0, I 0, I 0, I 0, I 0, I 0, I 0, I 0, I 0, I 0, I 0, I 0, I 0, I 0, I 0, I 0, I 0, I 0] := by kernel_rfl
theorem st24 : strOf Tryd.prog 24 = some (#[I 0, I 0, Value.slice none 0 0], #[(0, 1), (1, 1), (2, 1)]) := by kernel_rfl
theorem fu52 : funOf Tryd.prog 52 = true := by kernel_rfl
theorem zr3_4 : zrow (I 0) (4 * 1) = #[I 0, I 0, I 0, I 0] := by kernel_rfl
theorem fu29 : funOf Tryd.prog 29 = true := by kernel_rfl
theorem fu54 : funOf Tryd.prog 54 = true := by kernel_rfl
theorem fu30 : funOf Tryd.prog 30 = true := by kernel_rfl
theorem fu22 : funOf Tryd.prog 22 = true := by kernel_rfl
theorem fu31 : funOf Tryd.prog 31 = true := by kernel_rfl
theorem fu50 : funOf Tryd.prog 50 = true := by kernel_rfl
theorem fu36 : funOf Tryd.prog 36 = true := by kernel_rfl
theorem zr3_2 : zrow (I 0) (2 * 1) = #[I 0, I 0] := by kernel_rfl
theorem fu16 : funOf Tryd.prog 16 = true := by kernel_rfl
theorem fu18 : funOf Tryd.prog 18 = true := by kernel_rfl
theorem fu19 : funOf Tryd.prog 19 = true := by kernel_rfl
theorem fu87 : funOf Tryd.prog 87 = true := by kernel_rfl
theorem fu79 : funOf Tryd.prog 79 = true := by kernel_rfl
theorem fu80 : funOf Tryd.prog 80 = true := by kernel_rfl
theorem fu46 : funOf Tryd.prog 46 = true := by kernel_rfl
theorem fu48 : funOf Tryd.prog 48 = true := by kernel_rfl
theorem fu88 : funOf Tryd.prog 88 = true := by kernel_rfl
theorem fu89 : funOf Tryd.prog 89 = true := by kernel_rfl
theorem fu63 : funOf Tryd.prog 63 = true := by kernel_rfl
theorem fu64 : funOf Tryd.prog 64 = true := by kernel_rfl
theorem fu65 : funOf Tryd.prog 65 = true := by kernel_rfl
theorem fu23 : funOf Tryd.prog 23 = true := by kernel_rfl
end Go.Proofs.YtplpalmabgjibaaDoor
