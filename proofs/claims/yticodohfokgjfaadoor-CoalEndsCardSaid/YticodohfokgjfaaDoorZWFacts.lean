/- Closed facts about the types and functions of the program, printed by a program of mine. -/
import Derived.Test.YticodohfokgjfaaDoorProg
import Derived.Test.YticodohfokgjfaaDoorZFxArr
import Derived.KernelRfl
set_option linter.unusedVariables false
set_option linter.unusedSimpArgs false
namespace Go.Proofs.YticodohfokgjfaaDoor
open Go Go.Fx Go.Proofs
theorem fl23_1 : fldOf Tryd.prog 23 1 = some 1 := by kernel_rfl
theorem ty3 : aggOf Tryd.prog 3 = some false := by kernel_rfl
theorem fl23_0 : fldOf Tryd.prog 23 0 = some 0 := by kernel_rfl
theorem fl92_0 : fldOf Tryd.prog 92 0 = some 0 := by kernel_rfl
theorem fl29_6 : fldOf Tryd.prog 29 6 = some 13 := by kernel_rfl
theorem ty27 : aggOf Tryd.prog 27 = some false := by kernel_rfl
theorem sc27 : slcOf Tryd.prog 27 = some (67, 3) := by kernel_rfl
theorem ty67 : aggOf Tryd.prog 67 = some true := by kernel_rfl
theorem sz67 : sizOf Tryd.prog 67 = some 3 := by kernel_rfl
theorem in67 : infoOf Tryd.prog 67 = some (some (Value.agg #[I 0, I 0, I 0]), 3, 24) := by kernel_rfl
theorem fl67_0 : fldOf Tryd.prog 67 0 = some 0 := by kernel_rfl
theorem fl67_1 : fldOf Tryd.prog 67 1 = some 1 := by kernel_rfl
theorem fl67_2 : fldOf Tryd.prog 67 2 = some 2 := by kernel_rfl
theorem fu79 : funOf Tryd.prog 79 = true := by kernel_rfl
theorem in105 : infoOf Tryd.prog 105 = some (some (Value.agg #[I 0, I 0]), 2, 16) := by kernel_rfl
theorem ty105 : aggOf Tryd.prog 105 = some true := by kernel_rfl
theorem sz105 : sizOf Tryd.prog 105 = some 2 := by kernel_rfl
theorem sc39 : slcOf Tryd.prog 39 = some (3, 1) := by kernel_rfl
theorem mixed : Tryd.prog.follows .mixedOrders = true := by kernel_rfl
theorem fu110 : funOf Tryd.prog 110 = true := by kernel_rfl
theorem eq105 : eqOk Tryd.prog 105 [.int .i64, .int .i64] := ⟨by kernel_rfl, by kernel_rfl, by kernel_rfl⟩
theorem ae105 : arrElOf Tryd.prog 105 = some (2, 3) := by kernel_rfl
theorem sz3 : sizOf Tryd.prog 3 = some 1 := by kernel_rfl
theorem fl29_3 : fldOf Tryd.prog 29 3 = some 9 := by kernel_rfl
theorem ty26 : aggOf Tryd.prog 26 = some false := by kernel_rfl
theorem sc26 : slcOf Tryd.prog 26 = some (64, 3) := by kernel_rfl
theorem fl64_1 : fldOf Tryd.prog 64 1 = some 1 := by kernel_rfl
theorem fl64_0 : fldOf Tryd.prog 64 0 = some 0 := by kernel_rfl
theorem zr3_1 : zrow (I 0) (1 * 1) = #[I 0] := by kernel_rfl
theorem in3 : infoOf Tryd.prog 3 = some (some (I 0), 1, 8) := by kernel_rfl
theorem fu111 : funOf Tryd.prog 111 = true := by kernel_rfl
theorem ty124 : aggOf Tryd.prog 124 = some false := by kernel_rfl
theorem ty108 : aggOf Tryd.prog 108 = some true := by kernel_rfl
theorem sz108 : sizOf Tryd.prog 108 = some 15 := by kernel_rfl
theorem fl108_1 : fldOf Tryd.prog 108 1 = some 2 := by kernel_rfl
theorem fl29_5 : fldOf Tryd.prog 29 5 = some 12 := by kernel_rfl
theorem ty92 : aggOf Tryd.prog 92 = some true := by kernel_rfl
theorem sz92 : sizOf Tryd.prog 92 = some 15 := by kernel_rfl
theorem fl108_0 : fldOf Tryd.prog 108 0 = some 0 := by kernel_rfl
theorem fu106 : funOf Tryd.prog 106 = true := by kernel_rfl
theorem fl92_1 : fldOf Tryd.prog 92 1 = some 14 := by kernel_rfl
theorem ty90 : aggOf Tryd.prog 90 = some false := by kernel_rfl
theorem st123 : strOf Tryd.prog 123 = some (#[I 0, I 0], #[(0, 1), (1, 1)]) := by kernel_rfl
theorem mt90 : mptOf Tryd.prog 90 = some (123, 3) := by kernel_rfl
theorem ty56 : aggOf Tryd.prog 56 = some false := by kernel_rfl
theorem fu104 : funOf Tryd.prog 104 = true := by kernel_rfl
theorem fl108_2 : fldOf Tryd.prog 108 2 = some 3 := by kernel_rfl
theorem ar106 : arrOf Tryd.prog 106 = some (6, 1) := by kernel_rfl
theorem fl108_3 : fldOf Tryd.prog 108 3 = some 9 := by kernel_rfl
theorem ty130 : aggOf Tryd.prog 130 = some false := by kernel_rfl
theorem fu105 : funOf Tryd.prog 105 = true := by kernel_rfl
theorem in56 : infoOf Tryd.prog 56 = some (some (Value.nilFunc), 1, 8) := by kernel_rfl
theorem sz56 : sizOf Tryd.prog 56 = some 1 := by kernel_rfl
theorem in130 : infoOf Tryd.prog 130 = some (some (Value.nilFunc), 1, 8) := by kernel_rfl
theorem sz130 : sizOf Tryd.prog 130 = some 1 := by kernel_rfl
theorem fl29_0 : fldOf Tryd.prog 29 0 = some 0 := by kernel_rfl
theorem ty23 : aggOf Tryd.prog 23 = some true := by kernel_rfl
theorem sz23 : sizOf Tryd.prog 23 = some 2 := by kernel_rfl
theorem fu96 : funOf Tryd.prog 96 = true := by kernel_rfl
theorem fl29_1 : fldOf Tryd.prog 29 1 = some 2 := by kernel_rfl
theorem ar24 : arrOf Tryd.prog 24 = some (2, 2) := by kernel_rfl
theorem fl29_4 : fldOf Tryd.prog 29 4 = some 10 := by kernel_rfl
theorem ba105 : bldOf Tryd.prog 105 = some (#[I 0, I 0], 1) := by kernel_rfl
theorem st108 : strOf Tryd.prog 108 = some (#[I 0, I 0, I 0, I 0, I 0, I 0, I 0, I 0, I 0, I 0, I 0, I 0, I 0, I 0, I 0], #[(0, 2), (2, 1), (3, 6), (9, 6)]) := by kernel_rfl
theorem fu97 : funOf Tryd.prog 97 = true := by kernel_rfl
theorem in108 : infoOf Tryd.prog 108 = some (some (Value.agg #[I 0, I 0, I 0, I 0, I 0, I 0, I 0, I 0, I 0, I 0, I 0, I 0, I 0, I 0, I 0]), 15, 120) := by kernel_rfl
theorem fu103 : funOf Tryd.prog 103 = true := by kernel_rfl
theorem fu102 : funOf Tryd.prog 102 = true := by kernel_rfl
theorem ae106 : arrElOf Tryd.prog 106 = some (6, 3) := by kernel_rfl
theorem fu99 : funOf Tryd.prog 99 = true := by kernel_rfl
theorem in4 : infoOf Tryd.prog 4 = some (some (B false), 1, 1) := by kernel_rfl
theorem fu78 : funOf Tryd.prog 78 = true := by kernel_rfl
theorem fu82 : funOf Tryd.prog 82 = true := by kernel_rfl
theorem sz4 : sizOf Tryd.prog 4 = some 1 := by kernel_rfl
theorem fu95 : funOf Tryd.prog 95 = true := by kernel_rfl
theorem ty4 : aggOf Tryd.prog 4 = some false := by kernel_rfl
theorem in64 : infoOf Tryd.prog 64 = some (some (Value.agg #[I 0, I 0, I 0]), 3, 24) := by kernel_rfl
theorem in29 : infoOf Tryd.prog 29 = some (some (Value.agg #[I 0, I 0, I 0, I 0, I 0, I 0, I 0, I 0, I 0, Value.slice none 0 0, I 0, I 0, I 0, Value.slice none 0 0]), 14, 144) := by kernel_rfl
theorem sz26 : sizOf Tryd.prog 26 = some 1 := by kernel_rfl
theorem sz27 : sizOf Tryd.prog 27 = some 1 := by kernel_rfl
theorem ty29 : aggOf Tryd.prog 29 = some true := by kernel_rfl
theorem sz29 : sizOf Tryd.prog 29 = some 14 := by kernel_rfl
theorem fu81 : funOf Tryd.prog 81 = true := by kernel_rfl
theorem ty24 : aggOf Tryd.prog 24 = some true := by kernel_rfl
theorem sz24 : sizOf Tryd.prog 24 = some 4 := by kernel_rfl
theorem ae24 : arrElOf Tryd.prog 24 = some (2, 23) := by kernel_rfl
theorem in23 : infoOf Tryd.prog 23 = some (some (Value.agg #[I 0, I 0]), 2, 16) := by kernel_rfl
theorem fl29_2 : fldOf Tryd.prog 29 2 = some 6 := by kernel_rfl
theorem ty25 : aggOf Tryd.prog 25 = some true := by kernel_rfl
theorem sz25 : sizOf Tryd.prog 25 = some 3 := by kernel_rfl
theorem ae25 : arrElOf Tryd.prog 25 = some (3, 3) := by kernel_rfl
theorem ty64 : aggOf Tryd.prog 64 = some true := by kernel_rfl
theorem sz64 : sizOf Tryd.prog 64 = some 3 := by kernel_rfl
theorem fl64_2 : fldOf Tryd.prog 64 2 = some 2 := by kernel_rfl
theorem fu75 : funOf Tryd.prog 75 = true := by kernel_rfl
theorem fu101 : funOf Tryd.prog 101 = true := by kernel_rfl
theorem in92 : infoOf Tryd.prog 92 = some (some (Value.agg #[I 0, I 0, I 0, I 0, I 0, I 0, I 0, I 0, I 0, Value.slice none 0 0, I 0, I 0, I 0, Value.slice none 0 0, Value.map none]), 15, 152) := by kernel_rfl
theorem st92 : strOf Tryd.prog 92 = some (#[I 0, I 0, I 0, I 0, I 0, I 0, I 0, I 0, I 0, Value.slice none 0 0, I 0, I 0, I 0, Value.slice none 0 0, Value.map none], #[(0, 14), (14, 1)]) := by kernel_rfl
theorem fu93 : funOf Tryd.prog 93 = true := by kernel_rfl
theorem zr67_1 : zrow (Value.agg #[I 0, I 0, I 0]) (1 * 3) = #[I 0, I 0, I 0] := by kernel_rfl
theorem in123 : infoOf Tryd.prog 123 = some (some (Value.agg #[I 0, I 0]), 2, 16) := by kernel_rfl
theorem sz123 : sizOf Tryd.prog 123 = some 2 := by kernel_rfl
theorem ty123 : aggOf Tryd.prog 123 = some true := by kernel_rfl
theorem eq123 : eqOk Tryd.prog 123 [.int .i64, .int .i64] := ⟨by kernel_rfl, by kernel_rfl, by kernel_rfl⟩
theorem fu41 : funOf Tryd.prog 41 = true := by kernel_rfl
theorem fu71 : funOf Tryd.prog 71 = true := by kernel_rfl
theorem fu72 : funOf Tryd.prog 72 = true := by kernel_rfl
theorem fl101_0 : fldOf Tryd.prog 101 0 = some 0 := by kernel_rfl
theorem ty99 : aggOf Tryd.prog 99 = some false := by kernel_rfl
theorem st23 : strOf Tryd.prog 23 = some (#[I 0, I 0], #[(0, 1), (1, 1)]) := by kernel_rfl
theorem in101 : infoOf Tryd.prog 101 = some (some (Value.agg #[Value.nilFunc]), 1, 8) := by kernel_rfl
theorem st101 : strOf Tryd.prog 101 = some (#[Value.nilFunc], #[(0, 1)]) := by kernel_rfl
theorem sz101 : sizOf Tryd.prog 101 = some 1 := by kernel_rfl
theorem ty101 : aggOf Tryd.prog 101 = some true := by kernel_rfl
theorem fu74 : funOf Tryd.prog 74 = true := by kernel_rfl
theorem fu77 : funOf Tryd.prog 77 = true := by kernel_rfl
theorem fu76 : funOf Tryd.prog 76 = true := by kernel_rfl
theorem ar105 : arrOf Tryd.prog 105 = some (2, 1) := by kernel_rfl
theorem fu80 : funOf Tryd.prog 80 = true := by kernel_rfl
theorem fu34 : funOf Tryd.prog 34 = true := by kernel_rfl
theorem fu68 : funOf Tryd.prog 68 = true := by kernel_rfl
theorem ar25 : arrOf Tryd.prog 25 = some (3, 1) := by kernel_rfl
theorem fu33 : funOf Tryd.prog 33 = true := by kernel_rfl
theorem fu44 : funOf Tryd.prog 44 = true := by kernel_rfl
theorem fu26 : funOf Tryd.prog 26 = true := by kernel_rfl
theorem eq23 : eqOk Tryd.prog 23 [.int .i64, .int .i64] := ⟨by kernel_rfl, by kernel_rfl, by kernel_rfl⟩
theorem ty94 : aggOf Tryd.prog 94 = some false := by kernel_rfl
theorem fu73 : funOf Tryd.prog 73 = true := by kernel_rfl
theorem in94 : infoOf Tryd.prog 94 = some (some (Value.nilFunc), 1, 8) := by kernel_rfl
theorem sz94 : sizOf Tryd.prog 94 = some 1 := by kernel_rfl
theorem ty110 : aggOf Tryd.prog 110 = some true := by kernel_rfl
theorem sz110 : sizOf Tryd.prog 110 = some 2 := by kernel_rfl
theorem ae110 : arrElOf Tryd.prog 110 = some (2, 109) := by kernel_rfl
theorem sz109 : sizOf Tryd.prog 109 = some 1 := by kernel_rfl
theorem ty109 : aggOf Tryd.prog 109 = some false := by kernel_rfl
theorem fu128 : funOf Tryd.prog 128 = true := by kernel_rfl
theorem fu129 : funOf Tryd.prog 129 = true := by kernel_rfl
theorem ft23_0 : fldTOf Tryd.prog 23 0 = some (0, 3) := by kernel_rfl
theorem fu38 : funOf Tryd.prog 38 = true := by kernel_rfl
theorem ba24 : bldOf Tryd.prog 24 = some (#[I 0, I 0, I 0, I 0], 2) := by kernel_rfl
theorem ba25 : bldOf Tryd.prog 25 = some (#[I 0, I 0, I 0], 1) := by kernel_rfl
theorem st64 : strOf Tryd.prog 64 = some (#[I 0, I 0, I 0], #[(0, 1), (1, 1), (2, 1)]) := by kernel_rfl
theorem zr64_3 : zrow (Value.agg #[I 0, I 0, I 0]) (3 * 3) = #[I 0, I 0, I 0, I 0, I 0, I 0, I 0, I 0, I 0] := by kernel_rfl
theorem st29 : strOf Tryd.prog 29 = some (#[I 0, I 0, I 0, I 0, I 0, I 0, I 0, I 0, I 0, Value.slice none 0 0, I 0, I 0, I 0, Value.slice none 0 0], #[(0, 2), (2, 4), (6, 3), (9, 1), (10, 2), (12, 1), (13, 1)]) := by kernel_rfl
theorem fu51 : funOf Tryd.prog 51 = true := by kernel_rfl
theorem st67 : strOf Tryd.prog 67 = some (#[I 0, I 0, I 0], #[(0, 1), (1, 1), (2, 1)]) := by kernel_rfl
theorem zr67_2 : zrow (Value.agg #[I 0, I 0, I 0]) (2 * 3) = #[I 0, I 0, I 0, I 0, I 0, I 0] := by kernel_rfl
theorem fu50 : funOf Tryd.prog 50 = true := by kernel_rfl
theorem fu28 : funOf Tryd.prog 28 = true := by kernel_rfl
theorem fu53 : funOf Tryd.prog 53 = true := by kernel_rfl
theorem fu35 : funOf Tryd.prog 35 = true := by kernel_rfl
theorem fu29 : funOf Tryd.prog 29 = true := by kernel_rfl
theorem fu30 : funOf Tryd.prog 30 = true := by kernel_rfl
theorem fu37 : funOf Tryd.prog 37 = true := by kernel_rfl
theorem fu31 : funOf Tryd.prog 31 = true := by kernel_rfl
theorem fu45 : funOf Tryd.prog 45 = true := by kernel_rfl
theorem fu52 : funOf Tryd.prog 52 = true := by kernel_rfl
theorem fu27 : funOf Tryd.prog 27 = true := by kernel_rfl
theorem fu43 : funOf Tryd.prog 43 = true := by kernel_rfl
theorem fu25 : funOf Tryd.prog 25 = true := by kernel_rfl
theorem fu22 : funOf Tryd.prog 22 = true := by kernel_rfl
theorem fu19 : funOf Tryd.prog 19 = true := by kernel_rfl
theorem fu32 : funOf Tryd.prog 32 = true := by kernel_rfl
theorem ar60 : arrOf Tryd.prog 60 = some (4, 1) := by kernel_rfl
theorem fu39 : funOf Tryd.prog 39 = true := by kernel_rfl
theorem zr3_5 : zrow (I 0) (5 * 1) = #[I 0, I 0, I 0, I 0, I 0] := by kernel_rfl
theorem fu40 : funOf Tryd.prog 40 = true := by kernel_rfl
theorem zr3_2 : zrow (I 0) (2 * 1) = #[I 0, I 0] := by kernel_rfl
theorem ub4 : Tryd.prog.underlying 4 = some .bool := by kernel_rfl
end Go.Proofs.YticodohfokgjfaaDoor
