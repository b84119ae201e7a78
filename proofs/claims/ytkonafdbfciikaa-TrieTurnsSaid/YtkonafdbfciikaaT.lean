/-
  What the operations ask of the types of this program. Printed by wip/types.py.
-/
import Derived.Test.YtkonafdbfciikaaAmE
import Derived.Test.YtkonafdbfciikaaChecked
namespace Go.Proofs.Ytkonafdbfciikaa
open Go.RowKit
set_option maxRecDepth 100000

@[simp] theorem T_sz1 : szT Try.prog 1 = 1 := by kernel_rfl
@[simp] theorem T_ag1 : aggT Try.prog 1 = some false := by kernel_rfl
@[simp] theorem T_sz2 : szT Try.prog 2 = 1 := by kernel_rfl
@[simp] theorem T_ag2 : aggT Try.prog 2 = some false := by kernel_rfl
@[simp] theorem T_el2 : elT Try.prog 2 = none := by kernel_rfl
@[simp] theorem T_ar2 : arrT Try.prog 2 = none := by kernel_rfl
@[simp] theorem T_in2 : intT Try.prog 2 = some .i64 := by kernel_rfl
@[simp] theorem T_bo2 : boolT Try.prog 2 = false := by kernel_rfl
@[simp] theorem T_bt2 : byteT Try.prog 2 = false := by kernel_rfl
@[simp] theorem T_by2 : byT Try.prog 2 = 8 := by kernel_rfl
@[simp] theorem T_z2 : zT Try.prog 2 = some [.int .i64 0] := by kernel_rfl
@[simp] theorem T_sz3 : szT Try.prog 3 = 1 := by kernel_rfl
@[simp] theorem T_ag3 : aggT Try.prog 3 = some false := by kernel_rfl
@[simp] theorem T_el3 : elT Try.prog 3 = none := by kernel_rfl
@[simp] theorem T_ar3 : arrT Try.prog 3 = none := by kernel_rfl
@[simp] theorem T_in3 : intT Try.prog 3 = some .i64 := by kernel_rfl
@[simp] theorem T_bo3 : boolT Try.prog 3 = false := by kernel_rfl
@[simp] theorem T_bt3 : byteT Try.prog 3 = false := by kernel_rfl
@[simp] theorem T_by3 : byT Try.prog 3 = 8 := by kernel_rfl
@[simp] theorem T_z3 : zT Try.prog 3 = some [.int .i64 0] := by kernel_rfl
@[simp] theorem T_sz4 : szT Try.prog 4 = 1 := by kernel_rfl
@[simp] theorem T_ag4 : aggT Try.prog 4 = some false := by kernel_rfl
@[simp] theorem T_in4 : intT Try.prog 4 = none := by kernel_rfl
@[simp] theorem T_bo4 : boolT Try.prog 4 = true := by kernel_rfl
@[simp] theorem T_bt4 : byteT Try.prog 4 = false := by kernel_rfl
@[simp] theorem T_by4 : byT Try.prog 4 = 1 := by kernel_rfl
@[simp] theorem T_z4 : zT Try.prog 4 = some [.bool false] := by kernel_rfl
@[simp] theorem T_sz5 : szT Try.prog 5 = 1 := by kernel_rfl
@[simp] theorem T_ag5 : aggT Try.prog 5 = some false := by kernel_rfl
@[simp] theorem T_el5 : elT Try.prog 5 = none := by kernel_rfl
@[simp] theorem T_ar5 : arrT Try.prog 5 = none := by kernel_rfl
@[simp] theorem T_in5 : intT Try.prog 5 = some .u8 := by kernel_rfl
@[simp] theorem T_bo5 : boolT Try.prog 5 = false := by kernel_rfl
@[simp] theorem T_bt5 : byteT Try.prog 5 = true := by kernel_rfl
@[simp] theorem T_by5 : byT Try.prog 5 = 1 := by kernel_rfl
@[simp] theorem T_z5 : zT Try.prog 5 = some [.int .u8 0] := by kernel_rfl
@[simp] theorem T_sz6 : szT Try.prog 6 = 1 := by kernel_rfl
@[simp] theorem T_ag6 : aggT Try.prog 6 = some false := by kernel_rfl
@[simp] theorem T_el6 : elT Try.prog 6 = none := by kernel_rfl
@[simp] theorem T_ar6 : arrT Try.prog 6 = none := by kernel_rfl
@[simp] theorem T_in6 : intT Try.prog 6 = some .u8 := by kernel_rfl
@[simp] theorem T_bo6 : boolT Try.prog 6 = false := by kernel_rfl
@[simp] theorem T_bt6 : byteT Try.prog 6 = true := by kernel_rfl
@[simp] theorem T_by6 : byT Try.prog 6 = 1 := by kernel_rfl
@[simp] theorem T_z6 : zT Try.prog 6 = some [.int .u8 0] := by kernel_rfl
@[simp] theorem T_sz7 : szT Try.prog 7 = 4 := by kernel_rfl
@[simp] theorem T_ag7 : aggT Try.prog 7 = some true := by kernel_rfl
@[simp] theorem T_el7 : elT Try.prog 7 = none := by kernel_rfl
@[simp] theorem T_ar7 : arrT Try.prog 7 = none := by kernel_rfl
@[simp] theorem T_by7 : byT Try.prog 7 = 24 := by kernel_rfl
@[simp] theorem T_f7_0 : fldT Try.prog 7 0 = some (0, 2) := by kernel_rfl
@[simp] theorem T_f7_1 : fldT Try.prog 7 1 = some (1, 3) := by kernel_rfl
@[simp] theorem T_f7_2 : fldT Try.prog 7 2 = some (2, 4) := by kernel_rfl
@[simp] theorem T_f7_3 : fldT Try.prog 7 3 = some (3, 6) := by kernel_rfl
@[simp] theorem T_if7 : infoAll Try.prog 7 = true := by kernel_rfl
@[simp] theorem T_z7 : zT Try.prog 7 = some [.int .i64 0, .int .i64 0, .bool false, .int .u8 0] := by kernel_rfl
@[simp] theorem T_sz8 : szT Try.prog 8 = 4 := by kernel_rfl
@[simp] theorem T_ag8 : aggT Try.prog 8 = some true := by kernel_rfl
@[simp] theorem T_el8 : elT Try.prog 8 = none := by kernel_rfl
@[simp] theorem T_ar8 : arrT Try.prog 8 = none := by kernel_rfl
@[simp] theorem T_by8 : byT Try.prog 8 = 24 := by kernel_rfl
@[simp] theorem T_f8_0 : fldT Try.prog 8 0 = some (0, 2) := by kernel_rfl
@[simp] theorem T_f8_1 : fldT Try.prog 8 1 = some (1, 3) := by kernel_rfl
@[simp] theorem T_f8_2 : fldT Try.prog 8 2 = some (2, 4) := by kernel_rfl
@[simp] theorem T_f8_3 : fldT Try.prog 8 3 = some (3, 6) := by kernel_rfl
@[simp] theorem T_if8 : infoAll Try.prog 8 = true := by kernel_rfl
@[simp] theorem T_z8 : zT Try.prog 8 = some [.int .i64 0, .int .i64 0, .bool false, .int .u8 0] := by kernel_rfl
@[simp] theorem T_sz9 : szT Try.prog 9 = 1 := by kernel_rfl
@[simp] theorem T_ag9 : aggT Try.prog 9 = some false := by kernel_rfl
@[simp] theorem T_el9 : elT Try.prog 9 = none := by kernel_rfl
@[simp] theorem T_ar9 : arrT Try.prog 9 = none := by kernel_rfl
@[simp] theorem T_st9 : strT Try.prog 9 = true := by kernel_rfl
@[simp] theorem T_in9 : intT Try.prog 9 = none := by kernel_rfl
@[simp] theorem T_bo9 : boolT Try.prog 9 = false := by kernel_rfl
@[simp] theorem T_bt9 : byteT Try.prog 9 = false := by kernel_rfl
@[simp] theorem T_by9 : byT Try.prog 9 = 16 := by kernel_rfl
@[simp] theorem T_z9 : zT Try.prog 9 = some [.str ByteArray.empty] := by kernel_rfl
@[simp] theorem T_sz10 : szT Try.prog 10 = 1 := by kernel_rfl
@[simp] theorem T_ag10 : aggT Try.prog 10 = some false := by kernel_rfl
@[simp] theorem T_el10 : elT Try.prog 10 = none := by kernel_rfl
@[simp] theorem T_ar10 : arrT Try.prog 10 = none := by kernel_rfl
@[simp] theorem T_st10 : strT Try.prog 10 = true := by kernel_rfl
@[simp] theorem T_in10 : intT Try.prog 10 = none := by kernel_rfl
@[simp] theorem T_bo10 : boolT Try.prog 10 = false := by kernel_rfl
@[simp] theorem T_bt10 : byteT Try.prog 10 = false := by kernel_rfl
@[simp] theorem T_by10 : byT Try.prog 10 = 16 := by kernel_rfl
@[simp] theorem T_z10 : zT Try.prog 10 = some [.str ByteArray.empty] := by kernel_rfl
@[simp] theorem T_sz11 : szT Try.prog 11 = 1 := by kernel_rfl
@[simp] theorem T_ag11 : aggT Try.prog 11 = some false := by kernel_rfl
@[simp] theorem T_el11 : elT Try.prog 11 = none := by kernel_rfl
@[simp] theorem T_ar11 : arrT Try.prog 11 = none := by kernel_rfl
@[simp] theorem T_st11 : strT Try.prog 11 = true := by kernel_rfl
@[simp] theorem T_in11 : intT Try.prog 11 = none := by kernel_rfl
@[simp] theorem T_bo11 : boolT Try.prog 11 = false := by kernel_rfl
@[simp] theorem T_bt11 : byteT Try.prog 11 = false := by kernel_rfl
@[simp] theorem T_by11 : byT Try.prog 11 = 16 := by kernel_rfl
@[simp] theorem T_z11 : zT Try.prog 11 = some [.str ByteArray.empty] := by kernel_rfl
@[simp] theorem T_sz12 : szT Try.prog 12 = 1 := by kernel_rfl
@[simp] theorem T_ag12 : aggT Try.prog 12 = some false := by kernel_rfl
@[simp] theorem T_el12 : elT Try.prog 12 = none := by kernel_rfl
@[simp] theorem T_ar12 : arrT Try.prog 12 = none := by kernel_rfl
@[simp] theorem T_in12 : intT Try.prog 12 = some .u64 := by kernel_rfl
@[simp] theorem T_bo12 : boolT Try.prog 12 = false := by kernel_rfl
@[simp] theorem T_bt12 : byteT Try.prog 12 = false := by kernel_rfl
@[simp] theorem T_by12 : byT Try.prog 12 = 8 := by kernel_rfl
@[simp] theorem T_z12 : zT Try.prog 12 = some [.int .u64 0] := by kernel_rfl
@[simp] theorem T_sz13 : szT Try.prog 13 = 2 := by kernel_rfl
@[simp] theorem T_ag13 : aggT Try.prog 13 = some true := by kernel_rfl
@[simp] theorem T_el13 : elT Try.prog 13 = none := by kernel_rfl
@[simp] theorem T_ar13 : arrT Try.prog 13 = none := by kernel_rfl
@[simp] theorem T_by13 : byT Try.prog 13 = 24 := by kernel_rfl
@[simp] theorem T_f13_0 : fldT Try.prog 13 0 = some (0, 9) := by kernel_rfl
@[simp] theorem T_f13_1 : fldT Try.prog 13 1 = some (1, 12) := by kernel_rfl
@[simp] theorem T_if13 : infoAll Try.prog 13 = true := by kernel_rfl
@[simp] theorem T_z13 : zT Try.prog 13 = some [.str ByteArray.empty, .int .u64 0] := by kernel_rfl
@[simp] theorem T_sz14 : szT Try.prog 14 = 2 := by kernel_rfl
@[simp] theorem T_ag14 : aggT Try.prog 14 = some true := by kernel_rfl
@[simp] theorem T_el14 : elT Try.prog 14 = none := by kernel_rfl
@[simp] theorem T_ar14 : arrT Try.prog 14 = none := by kernel_rfl
@[simp] theorem T_by14 : byT Try.prog 14 = 24 := by kernel_rfl
@[simp] theorem T_f14_0 : fldT Try.prog 14 0 = some (0, 9) := by kernel_rfl
@[simp] theorem T_f14_1 : fldT Try.prog 14 1 = some (1, 12) := by kernel_rfl
@[simp] theorem T_if14 : infoAll Try.prog 14 = true := by kernel_rfl
@[simp] theorem T_z14 : zT Try.prog 14 = some [.str ByteArray.empty, .int .u64 0] := by kernel_rfl
@[simp] theorem T_sz15 : szT Try.prog 15 = 1 := by kernel_rfl
@[simp] theorem T_ag15 : aggT Try.prog 15 = some false := by kernel_rfl
@[simp] theorem T_el15 : elT Try.prog 15 = none := by kernel_rfl
@[simp] theorem T_ar15 : arrT Try.prog 15 = none := by kernel_rfl
@[simp] theorem T_st15 : strT Try.prog 15 = false := by kernel_rfl
@[simp] theorem T_pt15 : ptrT Try.prog 15 = true := by kernel_rfl
@[simp] theorem T_by15 : byT Try.prog 15 = 8 := by kernel_rfl
@[simp] theorem T_z15 : zT Try.prog 15 = some [.nilptr] := by kernel_rfl
@[simp] theorem T_sz16 : szT Try.prog 16 = 1 := by kernel_rfl
@[simp] theorem T_ag16 : aggT Try.prog 16 = some false := by kernel_rfl
@[simp] theorem T_el16 : elT Try.prog 16 = none := by kernel_rfl
@[simp] theorem T_ar16 : arrT Try.prog 16 = none := by kernel_rfl
@[simp] theorem T_st16 : strT Try.prog 16 = false := by kernel_rfl
@[simp] theorem T_pt16 : ptrT Try.prog 16 = true := by kernel_rfl
@[simp] theorem T_by16 : byT Try.prog 16 = 8 := by kernel_rfl
@[simp] theorem T_z16 : zT Try.prog 16 = some [.nilptr] := by kernel_rfl
@[simp] theorem T_sz17 : szT Try.prog 17 = 1 := by kernel_rfl
@[simp] theorem T_ag17 : aggT Try.prog 17 = some false := by kernel_rfl
@[simp] theorem T_el17 : elT Try.prog 17 = none := by kernel_rfl
@[simp] theorem T_ar17 : arrT Try.prog 17 = none := by kernel_rfl
@[simp] theorem T_st17 : strT Try.prog 17 = false := by kernel_rfl
@[simp] theorem T_pt17 : ptrT Try.prog 17 = true := by kernel_rfl
@[simp] theorem T_by17 : byT Try.prog 17 = 8 := by kernel_rfl
@[simp] theorem T_z17 : zT Try.prog 17 = some [.nilptr] := by kernel_rfl
@[simp] theorem T_sz18 : szT Try.prog 18 = 1 := by kernel_rfl
@[simp] theorem T_ag18 : aggT Try.prog 18 = some true := by kernel_rfl
@[simp] theorem T_el18 : elT Try.prog 18 = none := by kernel_rfl
@[simp] theorem T_ar18 : arrT Try.prog 18 = none := by kernel_rfl
@[simp] theorem T_by18 : byT Try.prog 18 = 8 := by kernel_rfl
@[simp] theorem T_f18_0 : fldT Try.prog 18 0 = some (0, 17) := by kernel_rfl
@[simp] theorem T_if18 : infoAll Try.prog 18 = true := by kernel_rfl
@[simp] theorem T_z18 : zT Try.prog 18 = some [.nilptr] := by kernel_rfl
@[simp] theorem T_sz19 : szT Try.prog 19 = 1 := by kernel_rfl
@[simp] theorem T_ag19 : aggT Try.prog 19 = some true := by kernel_rfl
@[simp] theorem T_el19 : elT Try.prog 19 = none := by kernel_rfl
@[simp] theorem T_ar19 : arrT Try.prog 19 = none := by kernel_rfl
@[simp] theorem T_by19 : byT Try.prog 19 = 8 := by kernel_rfl
@[simp] theorem T_f19_0 : fldT Try.prog 19 0 = some (0, 17) := by kernel_rfl
@[simp] theorem T_if19 : infoAll Try.prog 19 = true := by kernel_rfl
@[simp] theorem T_z19 : zT Try.prog 19 = some [.nilptr] := by kernel_rfl
@[simp] theorem T_sz21 : szT Try.prog 21 = 1 := by kernel_rfl
@[simp] theorem T_ag21 : aggT Try.prog 21 = some false := by kernel_rfl
@[simp] theorem T_el21 : elT Try.prog 21 = none := by kernel_rfl
@[simp] theorem T_ar21 : arrT Try.prog 21 = none := by kernel_rfl
@[simp] theorem T_in21 : intT Try.prog 21 = some .i32 := by kernel_rfl
@[simp] theorem T_bo21 : boolT Try.prog 21 = false := by kernel_rfl
@[simp] theorem T_bt21 : byteT Try.prog 21 = false := by kernel_rfl
@[simp] theorem T_by21 : byT Try.prog 21 = 4 := by kernel_rfl
@[simp] theorem T_z21 : zT Try.prog 21 = some [.int .i32 0] := by kernel_rfl
@[simp] theorem T_sz22 : szT Try.prog 22 = 1 := by kernel_rfl
@[simp] theorem T_ag22 : aggT Try.prog 22 = some false := by kernel_rfl
@[simp] theorem T_el22 : elT Try.prog 22 = some 35 := by kernel_rfl
@[simp] theorem T_ar22 : arrT Try.prog 22 = none := by kernel_rfl
@[simp] theorem T_st22 : strT Try.prog 22 = false := by kernel_rfl
@[simp] theorem T_by22 : byT Try.prog 22 = 24 := by kernel_rfl
@[simp] theorem T_z22 : zT Try.prog 22 = some [.slice 1 true []] := by kernel_rfl
@[simp] theorem T_sz23 : szT Try.prog 23 = 1 := by kernel_rfl
@[simp] theorem T_ag23 : aggT Try.prog 23 = some false := by kernel_rfl
@[simp] theorem T_sz24 : szT Try.prog 24 = 1 := by kernel_rfl
@[simp] theorem T_ag24 : aggT Try.prog 24 = some false := by kernel_rfl
@[simp] theorem T_sz25 : szT Try.prog 25 = 2 := by kernel_rfl
@[simp] theorem T_ag25 : aggT Try.prog 25 = some true := by kernel_rfl
@[simp] theorem T_el25 : elT Try.prog 25 = none := by kernel_rfl
@[simp] theorem T_ar25 : arrT Try.prog 25 = none := by kernel_rfl
@[simp] theorem T_by25 : byT Try.prog 25 = 32 := by kernel_rfl
@[simp] theorem T_f25_0 : fldT Try.prog 25 0 = some (0, 3) := by kernel_rfl
@[simp] theorem T_f25_1 : fldT Try.prog 25 1 = some (1, 22) := by kernel_rfl
@[simp] theorem T_if25 : infoAll Try.prog 25 = true := by kernel_rfl
@[simp] theorem T_z25 : zT Try.prog 25 = some [.int .i64 0, .slice 1 true []] := by kernel_rfl
@[simp] theorem T_sz26 : szT Try.prog 26 = 2 := by kernel_rfl
@[simp] theorem T_ag26 : aggT Try.prog 26 = some true := by kernel_rfl
@[simp] theorem T_el26 : elT Try.prog 26 = none := by kernel_rfl
@[simp] theorem T_ar26 : arrT Try.prog 26 = none := by kernel_rfl
@[simp] theorem T_by26 : byT Try.prog 26 = 32 := by kernel_rfl
@[simp] theorem T_f26_0 : fldT Try.prog 26 0 = some (0, 3) := by kernel_rfl
@[simp] theorem T_f26_1 : fldT Try.prog 26 1 = some (1, 22) := by kernel_rfl
@[simp] theorem T_if26 : infoAll Try.prog 26 = true := by kernel_rfl
@[simp] theorem T_z26 : zT Try.prog 26 = some [.int .i64 0, .slice 1 true []] := by kernel_rfl
@[simp] theorem T_sz27 : szT Try.prog 27 = 1 := by kernel_rfl
@[simp] theorem T_ag27 : aggT Try.prog 27 = some false := by kernel_rfl
@[simp] theorem T_el27 : elT Try.prog 27 = none := by kernel_rfl
@[simp] theorem T_ar27 : arrT Try.prog 27 = none := by kernel_rfl
@[simp] theorem T_in27 : intT Try.prog 27 = some .i64 := by kernel_rfl
@[simp] theorem T_bo27 : boolT Try.prog 27 = false := by kernel_rfl
@[simp] theorem T_bt27 : byteT Try.prog 27 = false := by kernel_rfl
@[simp] theorem T_by27 : byT Try.prog 27 = 8 := by kernel_rfl
@[simp] theorem T_z27 : zT Try.prog 27 = some [.int .i64 0] := by kernel_rfl
@[simp] theorem T_sz29 : szT Try.prog 29 = 1 := by kernel_rfl
@[simp] theorem T_ag29 : aggT Try.prog 29 = some false := by kernel_rfl
@[simp] theorem T_sz30 : szT Try.prog 30 = 1 := by kernel_rfl
@[simp] theorem T_ag30 : aggT Try.prog 30 = some false := by kernel_rfl
@[simp] theorem T_el30 : elT Try.prog 30 = some 62 := by kernel_rfl
@[simp] theorem T_ar30 : arrT Try.prog 30 = none := by kernel_rfl
@[simp] theorem T_st30 : strT Try.prog 30 = false := by kernel_rfl
@[simp] theorem T_by30 : byT Try.prog 30 = 24 := by kernel_rfl
@[simp] theorem T_z30 : zT Try.prog 30 = some [.slice 2 true []] := by kernel_rfl
@[simp] theorem T_sz31 : szT Try.prog 31 = 1 := by kernel_rfl
@[simp] theorem T_ag31 : aggT Try.prog 31 = some true := by kernel_rfl
@[simp] theorem T_el31 : elT Try.prog 31 = none := by kernel_rfl
@[simp] theorem T_ar31 : arrT Try.prog 31 = none := by kernel_rfl
@[simp] theorem T_by31 : byT Try.prog 31 = 24 := by kernel_rfl
@[simp] theorem T_f31_0 : fldT Try.prog 31 0 = some (0, 30) := by kernel_rfl
@[simp] theorem T_if31 : infoAll Try.prog 31 = true := by kernel_rfl
@[simp] theorem T_z31 : zT Try.prog 31 = some [.slice 2 true []] := by kernel_rfl
@[simp] theorem T_sz32 : szT Try.prog 32 = 1 := by kernel_rfl
@[simp] theorem T_ag32 : aggT Try.prog 32 = some true := by kernel_rfl
@[simp] theorem T_el32 : elT Try.prog 32 = none := by kernel_rfl
@[simp] theorem T_ar32 : arrT Try.prog 32 = none := by kernel_rfl
@[simp] theorem T_by32 : byT Try.prog 32 = 24 := by kernel_rfl
@[simp] theorem T_f32_0 : fldT Try.prog 32 0 = some (0, 30) := by kernel_rfl
@[simp] theorem T_if32 : infoAll Try.prog 32 = true := by kernel_rfl
@[simp] theorem T_z32 : zT Try.prog 32 = some [.slice 2 true []] := by kernel_rfl
@[simp] theorem T_sz34 : szT Try.prog 34 = 1 := by kernel_rfl
@[simp] theorem T_ag34 : aggT Try.prog 34 = some false := by kernel_rfl
@[simp] theorem T_sz35 : szT Try.prog 35 = 1 := by kernel_rfl
@[simp] theorem T_ag35 : aggT Try.prog 35 = some false := by kernel_rfl
@[simp] theorem T_el35 : elT Try.prog 35 = some 3 := by kernel_rfl
@[simp] theorem T_ar35 : arrT Try.prog 35 = none := by kernel_rfl
@[simp] theorem T_st35 : strT Try.prog 35 = false := by kernel_rfl
@[simp] theorem T_by35 : byT Try.prog 35 = 24 := by kernel_rfl
@[simp] theorem T_z35 : zT Try.prog 35 = some [.slice 1 true []] := by kernel_rfl
@[simp] theorem T_sz36 : szT Try.prog 36 = 2 := by kernel_rfl
@[simp] theorem T_ag36 : aggT Try.prog 36 = some true := by kernel_rfl
@[simp] theorem T_el36 : elT Try.prog 36 = none := by kernel_rfl
@[simp] theorem T_ar36 : arrT Try.prog 36 = none := by kernel_rfl
@[simp] theorem T_by36 : byT Try.prog 36 = 48 := by kernel_rfl
@[simp] theorem T_f36_0 : fldT Try.prog 36 0 = some (0, 35) := by kernel_rfl
@[simp] theorem T_f36_1 : fldT Try.prog 36 1 = some (1, 35) := by kernel_rfl
@[simp] theorem T_if36 : infoAll Try.prog 36 = true := by kernel_rfl
@[simp] theorem T_z36 : zT Try.prog 36 = some [.slice 1 true [], .slice 1 true []] := by kernel_rfl
@[simp] theorem T_sz37 : szT Try.prog 37 = 2 := by kernel_rfl
@[simp] theorem T_ag37 : aggT Try.prog 37 = some true := by kernel_rfl
@[simp] theorem T_el37 : elT Try.prog 37 = none := by kernel_rfl
@[simp] theorem T_ar37 : arrT Try.prog 37 = none := by kernel_rfl
@[simp] theorem T_by37 : byT Try.prog 37 = 48 := by kernel_rfl
@[simp] theorem T_f37_0 : fldT Try.prog 37 0 = some (0, 35) := by kernel_rfl
@[simp] theorem T_f37_1 : fldT Try.prog 37 1 = some (1, 35) := by kernel_rfl
@[simp] theorem T_if37 : infoAll Try.prog 37 = true := by kernel_rfl
@[simp] theorem T_z37 : zT Try.prog 37 = some [.slice 1 true [], .slice 1 true []] := by kernel_rfl
@[simp] theorem T_sz39 : szT Try.prog 39 = 1 := by kernel_rfl
@[simp] theorem T_ag39 : aggT Try.prog 39 = some false := by kernel_rfl
@[simp] theorem T_sz40 : szT Try.prog 40 = 1 := by kernel_rfl
@[simp] theorem T_ag40 : aggT Try.prog 40 = some false := by kernel_rfl
@[simp] theorem T_sz42 : szT Try.prog 42 = 1 := by kernel_rfl
@[simp] theorem T_ag42 : aggT Try.prog 42 = some false := by kernel_rfl
@[simp] theorem T_sz43 : szT Try.prog 43 = 1 := by kernel_rfl
@[simp] theorem T_ag43 : aggT Try.prog 43 = some false := by kernel_rfl
@[simp] theorem T_sz44 : szT Try.prog 44 = 1 := by kernel_rfl
@[simp] theorem T_ag44 : aggT Try.prog 44 = some false := by kernel_rfl
@[simp] theorem T_sz45 : szT Try.prog 45 = 1 := by kernel_rfl
@[simp] theorem T_ag45 : aggT Try.prog 45 = some false := by kernel_rfl
@[simp] theorem T_sz46 : szT Try.prog 46 = 1 := by kernel_rfl
@[simp] theorem T_ag46 : aggT Try.prog 46 = some false := by kernel_rfl
@[simp] theorem T_sz47 : szT Try.prog 47 = 1 := by kernel_rfl
@[simp] theorem T_ag47 : aggT Try.prog 47 = some false := by kernel_rfl
@[simp] theorem T_sz48 : szT Try.prog 48 = 1 := by kernel_rfl
@[simp] theorem T_ag48 : aggT Try.prog 48 = some false := by kernel_rfl
@[simp] theorem T_sz49 : szT Try.prog 49 = 1 := by kernel_rfl
@[simp] theorem T_ag49 : aggT Try.prog 49 = some false := by kernel_rfl
@[simp] theorem T_sz50 : szT Try.prog 50 = 1 := by kernel_rfl
@[simp] theorem T_ag50 : aggT Try.prog 50 = some false := by kernel_rfl
@[simp] theorem T_sz51 : szT Try.prog 51 = 1 := by kernel_rfl
@[simp] theorem T_ag51 : aggT Try.prog 51 = some false := by kernel_rfl
@[simp] theorem T_sz52 : szT Try.prog 52 = 1 := by kernel_rfl
@[simp] theorem T_ag52 : aggT Try.prog 52 = some false := by kernel_rfl
@[simp] theorem T_sz53 : szT Try.prog 53 = 1 := by kernel_rfl
@[simp] theorem T_ag53 : aggT Try.prog 53 = some false := by kernel_rfl
@[simp] theorem T_sz54 : szT Try.prog 54 = 1 := by kernel_rfl
@[simp] theorem T_ag54 : aggT Try.prog 54 = some false := by kernel_rfl
@[simp] theorem T_sz55 : szT Try.prog 55 = 1 := by kernel_rfl
@[simp] theorem T_ag55 : aggT Try.prog 55 = some false := by kernel_rfl
@[simp] theorem T_sz56 : szT Try.prog 56 = 1 := by kernel_rfl
@[simp] theorem T_ag56 : aggT Try.prog 56 = some false := by kernel_rfl
@[simp] theorem T_sz57 : szT Try.prog 57 = 1 := by kernel_rfl
@[simp] theorem T_ag57 : aggT Try.prog 57 = some false := by kernel_rfl
@[simp] theorem T_sz58 : szT Try.prog 58 = 1 := by kernel_rfl
@[simp] theorem T_ag58 : aggT Try.prog 58 = some false := by kernel_rfl
@[simp] theorem T_sz59 : szT Try.prog 59 = 1 := by kernel_rfl
@[simp] theorem T_ag59 : aggT Try.prog 59 = some false := by kernel_rfl
@[simp] theorem T_sz60 : szT Try.prog 60 = 1 := by kernel_rfl
@[simp] theorem T_ag60 : aggT Try.prog 60 = some false := by kernel_rfl
@[simp] theorem T_sz61 : szT Try.prog 61 = 2 := by kernel_rfl
@[simp] theorem T_ag61 : aggT Try.prog 61 = some true := by kernel_rfl
@[simp] theorem T_el61 : elT Try.prog 61 = none := by kernel_rfl
@[simp] theorem T_ar61 : arrT Try.prog 61 = none := by kernel_rfl
@[simp] theorem T_by61 : byT Try.prog 61 = 48 := by kernel_rfl
@[simp] theorem T_f61_0 : fldT Try.prog 61 0 = some (0, 35) := by kernel_rfl
@[simp] theorem T_f61_1 : fldT Try.prog 61 1 = some (1, 35) := by kernel_rfl
@[simp] theorem T_if61 : infoAll Try.prog 61 = true := by kernel_rfl
@[simp] theorem T_z61 : zT Try.prog 61 = some [.slice 1 true [], .slice 1 true []] := by kernel_rfl
@[simp] theorem T_sz62 : szT Try.prog 62 = 2 := by kernel_rfl
@[simp] theorem T_ag62 : aggT Try.prog 62 = some true := by kernel_rfl
@[simp] theorem T_el62 : elT Try.prog 62 = none := by kernel_rfl
@[simp] theorem T_ar62 : arrT Try.prog 62 = none := by kernel_rfl
@[simp] theorem T_by62 : byT Try.prog 62 = 48 := by kernel_rfl
@[simp] theorem T_f62_0 : fldT Try.prog 62 0 = some (0, 35) := by kernel_rfl
@[simp] theorem T_f62_1 : fldT Try.prog 62 1 = some (1, 35) := by kernel_rfl
@[simp] theorem T_if62 : infoAll Try.prog 62 = true := by kernel_rfl
@[simp] theorem T_z62 : zT Try.prog 62 = some [.slice 1 true [], .slice 1 true []] := by kernel_rfl
@[simp] theorem T_sz63 : szT Try.prog 63 = 1 := by kernel_rfl
@[simp] theorem T_ag63 : aggT Try.prog 63 = some false := by kernel_rfl
@[simp] theorem T_sz64 : szT Try.prog 64 = 1 := by kernel_rfl
@[simp] theorem T_ag64 : aggT Try.prog 64 = some false := by kernel_rfl
@[simp] theorem T_sz65 : szT Try.prog 65 = 1 := by kernel_rfl
@[simp] theorem T_ag65 : aggT Try.prog 65 = some false := by kernel_rfl
@[simp] theorem T_sz67 : szT Try.prog 67 = 1 := by kernel_rfl
@[simp] theorem T_ag67 : aggT Try.prog 67 = some false := by kernel_rfl
@[simp] theorem T_sz68 : szT Try.prog 68 = 1 := by kernel_rfl
@[simp] theorem T_ag68 : aggT Try.prog 68 = some false := by kernel_rfl
@[simp] theorem T_sz69 : szT Try.prog 69 = 1 := by kernel_rfl
@[simp] theorem T_ag69 : aggT Try.prog 69 = some false := by kernel_rfl
@[simp] theorem T_sz70 : szT Try.prog 70 = 1 := by kernel_rfl
@[simp] theorem T_ag70 : aggT Try.prog 70 = some false := by kernel_rfl
@[simp] theorem T_sz71 : szT Try.prog 71 = 1 := by kernel_rfl
@[simp] theorem T_ag71 : aggT Try.prog 71 = some false := by kernel_rfl
@[simp] theorem T_sz72 : szT Try.prog 72 = 1 := by kernel_rfl
@[simp] theorem T_ag72 : aggT Try.prog 72 = some false := by kernel_rfl
@[simp] theorem T_sz73 : szT Try.prog 73 = 1 := by kernel_rfl
@[simp] theorem T_ag73 : aggT Try.prog 73 = some false := by kernel_rfl
@[simp] theorem T_sz74 : szT Try.prog 74 = 1 := by kernel_rfl
@[simp] theorem T_ag74 : aggT Try.prog 74 = some false := by kernel_rfl
@[simp] theorem T_sz75 : szT Try.prog 75 = 1 := by kernel_rfl
@[simp] theorem T_ag75 : aggT Try.prog 75 = some false := by kernel_rfl
@[simp] theorem T_sz76 : szT Try.prog 76 = 1 := by kernel_rfl
@[simp] theorem T_ag76 : aggT Try.prog 76 = some false := by kernel_rfl
@[simp] theorem T_sz77 : szT Try.prog 77 = 1 := by kernel_rfl
@[simp] theorem T_ag77 : aggT Try.prog 77 = some false := by kernel_rfl
@[simp] theorem T_sz78 : szT Try.prog 78 = 1 := by kernel_rfl
@[simp] theorem T_ag78 : aggT Try.prog 78 = some false := by kernel_rfl
@[simp] theorem T_sz79 : szT Try.prog 79 = 1 := by kernel_rfl
@[simp] theorem T_ag79 : aggT Try.prog 79 = some false := by kernel_rfl
@[simp] theorem T_sz80 : szT Try.prog 80 = 1 := by kernel_rfl
@[simp] theorem T_ag80 : aggT Try.prog 80 = some false := by kernel_rfl
@[simp] theorem T_sz81 : szT Try.prog 81 = 1 := by kernel_rfl
@[simp] theorem T_ag81 : aggT Try.prog 81 = some false := by kernel_rfl
@[simp] theorem T_sz82 : szT Try.prog 82 = 1 := by kernel_rfl
@[simp] theorem T_ag82 : aggT Try.prog 82 = some false := by kernel_rfl
@[simp] theorem T_sz83 : szT Try.prog 83 = 1 := by kernel_rfl
@[simp] theorem T_ag83 : aggT Try.prog 83 = some false := by kernel_rfl
@[simp] theorem T_sz84 : szT Try.prog 84 = 1 := by kernel_rfl
@[simp] theorem T_ag84 : aggT Try.prog 84 = some false := by kernel_rfl
@[simp] theorem T_sz85 : szT Try.prog 85 = 1 := by kernel_rfl
@[simp] theorem T_ag85 : aggT Try.prog 85 = some false := by kernel_rfl
@[simp] theorem T_sz86 : szT Try.prog 86 = 1 := by kernel_rfl
@[simp] theorem T_ag86 : aggT Try.prog 86 = some false := by kernel_rfl
@[simp] theorem T_sz87 : szT Try.prog 87 = 1 := by kernel_rfl
@[simp] theorem T_ag87 : aggT Try.prog 87 = some false := by kernel_rfl
@[simp] theorem T_sz88 : szT Try.prog 88 = 1 := by kernel_rfl
@[simp] theorem T_ag88 : aggT Try.prog 88 = some false := by kernel_rfl
@[simp] theorem T_el88 : elT Try.prog 88 = none := by kernel_rfl
@[simp] theorem T_ar88 : arrT Try.prog 88 = none := by kernel_rfl
@[simp] theorem T_in88 : intT Try.prog 88 = some .u64 := by kernel_rfl
@[simp] theorem T_bo88 : boolT Try.prog 88 = false := by kernel_rfl
@[simp] theorem T_bt88 : byteT Try.prog 88 = false := by kernel_rfl
@[simp] theorem T_by88 : byT Try.prog 88 = 8 := by kernel_rfl
@[simp] theorem T_z88 : zT Try.prog 88 = some [.int .u64 0] := by kernel_rfl
@[simp] theorem T_sz89 : szT Try.prog 89 = 1 := by kernel_rfl
@[simp] theorem T_ag89 : aggT Try.prog 89 = some false := by kernel_rfl
@[simp] theorem T_sz90 : szT Try.prog 90 = 1 := by kernel_rfl
@[simp] theorem T_ag90 : aggT Try.prog 90 = some false := by kernel_rfl
@[simp] theorem T_sz91 : szT Try.prog 91 = 1 := by kernel_rfl
@[simp] theorem T_ag91 : aggT Try.prog 91 = some false := by kernel_rfl
@[simp] theorem T_sz92 : szT Try.prog 92 = 1 := by kernel_rfl
@[simp] theorem T_ag92 : aggT Try.prog 92 = some false := by kernel_rfl
@[simp] theorem T_sz93 : szT Try.prog 93 = 1 := by kernel_rfl
@[simp] theorem T_ag93 : aggT Try.prog 93 = some false := by kernel_rfl
@[simp] theorem T_sz94 : szT Try.prog 94 = 1 := by kernel_rfl
@[simp] theorem T_ag94 : aggT Try.prog 94 = some false := by kernel_rfl
@[simp] theorem T_sz95 : szT Try.prog 95 = 1 := by kernel_rfl
@[simp] theorem T_ag95 : aggT Try.prog 95 = some false := by kernel_rfl
@[simp] theorem T_el95 : elT Try.prog 95 = none := by kernel_rfl
@[simp] theorem T_ar95 : arrT Try.prog 95 = none := by kernel_rfl
@[simp] theorem T_in95 : intT Try.prog 95 = some .i64 := by kernel_rfl
@[simp] theorem T_bo95 : boolT Try.prog 95 = false := by kernel_rfl
@[simp] theorem T_bt95 : byteT Try.prog 95 = false := by kernel_rfl
@[simp] theorem T_by95 : byT Try.prog 95 = 8 := by kernel_rfl
@[simp] theorem T_z95 : zT Try.prog 95 = some [.int .i64 0] := by kernel_rfl
@[simp] theorem T_sz97 : szT Try.prog 97 = 1 := by kernel_rfl
@[simp] theorem T_ag97 : aggT Try.prog 97 = some false := by kernel_rfl
@[simp] theorem T_sz98 : szT Try.prog 98 = 1 := by kernel_rfl
@[simp] theorem T_ag98 : aggT Try.prog 98 = some false := by kernel_rfl
@[simp] theorem T_sz99 : szT Try.prog 99 = 1 := by kernel_rfl
@[simp] theorem T_ag99 : aggT Try.prog 99 = some false := by kernel_rfl
@[simp] theorem T_sz100 : szT Try.prog 100 = 1 := by kernel_rfl
@[simp] theorem T_ag100 : aggT Try.prog 100 = some false := by kernel_rfl
@[simp] theorem T_sz101 : szT Try.prog 101 = 1 := by kernel_rfl
@[simp] theorem T_ag101 : aggT Try.prog 101 = some false := by kernel_rfl
@[simp] theorem T_sz102 : szT Try.prog 102 = 1 := by kernel_rfl
@[simp] theorem T_ag102 : aggT Try.prog 102 = some false := by kernel_rfl
@[simp] theorem T_el102 : elT Try.prog 102 = none := by kernel_rfl
@[simp] theorem T_ar102 : arrT Try.prog 102 = none := by kernel_rfl
@[simp] theorem T_in102 : intT Try.prog 102 = some .u32 := by kernel_rfl
@[simp] theorem T_bo102 : boolT Try.prog 102 = false := by kernel_rfl
@[simp] theorem T_bt102 : byteT Try.prog 102 = false := by kernel_rfl
@[simp] theorem T_by102 : byT Try.prog 102 = 4 := by kernel_rfl
@[simp] theorem T_z102 : zT Try.prog 102 = some [.int .u32 0] := by kernel_rfl
@[simp] theorem T_sz103 : szT Try.prog 103 = 1 := by kernel_rfl
@[simp] theorem T_ag103 : aggT Try.prog 103 = some false := by kernel_rfl
@[simp] theorem T_sz104 : szT Try.prog 104 = 1 := by kernel_rfl
@[simp] theorem T_ag104 : aggT Try.prog 104 = some false := by kernel_rfl
@[simp] theorem T_el104 : elT Try.prog 104 = none := by kernel_rfl
@[simp] theorem T_ar104 : arrT Try.prog 104 = none := by kernel_rfl
@[simp] theorem T_in104 : intT Try.prog 104 = some .u64 := by kernel_rfl
@[simp] theorem T_bo104 : boolT Try.prog 104 = false := by kernel_rfl
@[simp] theorem T_bt104 : byteT Try.prog 104 = false := by kernel_rfl
@[simp] theorem T_by104 : byT Try.prog 104 = 8 := by kernel_rfl
@[simp] theorem T_z104 : zT Try.prog 104 = some [.int .u64 0] := by kernel_rfl
@[simp] theorem T_sz105 : szT Try.prog 105 = 1 := by kernel_rfl
@[simp] theorem T_ag105 : aggT Try.prog 105 = some false := by kernel_rfl
@[simp] theorem T_sz106 : szT Try.prog 106 = 1 := by kernel_rfl
@[simp] theorem T_ag106 : aggT Try.prog 106 = some false := by kernel_rfl
@[simp] theorem T_sz107 : szT Try.prog 107 = 1 := by kernel_rfl
@[simp] theorem T_ag107 : aggT Try.prog 107 = some false := by kernel_rfl
@[simp] theorem T_el107 : elT Try.prog 107 = none := by kernel_rfl
@[simp] theorem T_ar107 : arrT Try.prog 107 = none := by kernel_rfl
@[simp] theorem T_in107 : intT Try.prog 107 = some .u64 := by kernel_rfl
@[simp] theorem T_bo107 : boolT Try.prog 107 = false := by kernel_rfl
@[simp] theorem T_bt107 : byteT Try.prog 107 = false := by kernel_rfl
@[simp] theorem T_by107 : byT Try.prog 107 = 8 := by kernel_rfl
@[simp] theorem T_z107 : zT Try.prog 107 = some [.int .u64 0] := by kernel_rfl
@[simp] theorem T_sz108 : szT Try.prog 108 = 1 := by kernel_rfl
@[simp] theorem T_ag108 : aggT Try.prog 108 = some false := by kernel_rfl
@[simp] theorem T_sz109 : szT Try.prog 109 = 1 := by kernel_rfl
@[simp] theorem T_ag109 : aggT Try.prog 109 = some false := by kernel_rfl
@[simp] theorem T_sz110 : szT Try.prog 110 = 1 := by kernel_rfl
@[simp] theorem T_ag110 : aggT Try.prog 110 = some false := by kernel_rfl
@[simp] theorem T_sz111 : szT Try.prog 111 = 1 := by kernel_rfl
@[simp] theorem T_ag111 : aggT Try.prog 111 = some false := by kernel_rfl
@[simp] theorem T_el111 : elT Try.prog 111 = none := by kernel_rfl
@[simp] theorem T_ar111 : arrT Try.prog 111 = none := by kernel_rfl
@[simp] theorem T_st111 : strT Try.prog 111 = false := by kernel_rfl
@[simp] theorem T_pt111 : ptrT Try.prog 111 = true := by kernel_rfl
@[simp] theorem T_by111 : byT Try.prog 111 = 8 := by kernel_rfl
@[simp] theorem T_z111 : zT Try.prog 111 = some [.nilptr] := by kernel_rfl
@[simp] theorem T_sz112 : szT Try.prog 112 = 1 := by kernel_rfl
@[simp] theorem T_ag112 : aggT Try.prog 112 = some false := by kernel_rfl
@[simp] theorem T_sz113 : szT Try.prog 113 = 1 := by kernel_rfl
@[simp] theorem T_ag113 : aggT Try.prog 113 = some false := by kernel_rfl
@[simp] theorem T_sz114 : szT Try.prog 114 = 1 := by kernel_rfl
@[simp] theorem T_ag114 : aggT Try.prog 114 = some false := by kernel_rfl
@[simp] theorem T_sz115 : szT Try.prog 115 = 1 := by kernel_rfl
@[simp] theorem T_ag115 : aggT Try.prog 115 = some false := by kernel_rfl
@[simp] theorem T_sz116 : szT Try.prog 116 = 1 := by kernel_rfl
@[simp] theorem T_ag116 : aggT Try.prog 116 = some false := by kernel_rfl
@[simp] theorem T_sz117 : szT Try.prog 117 = 1 := by kernel_rfl
@[simp] theorem T_ag117 : aggT Try.prog 117 = some false := by kernel_rfl
@[simp] theorem T_sz118 : szT Try.prog 118 = 1 := by kernel_rfl
@[simp] theorem T_ag118 : aggT Try.prog 118 = some false := by kernel_rfl
@[simp] theorem T_el118 : elT Try.prog 118 = none := by kernel_rfl
@[simp] theorem T_ar118 : arrT Try.prog 118 = none := by kernel_rfl
@[simp] theorem T_st118 : strT Try.prog 118 = false := by kernel_rfl
@[simp] theorem T_pt118 : ptrT Try.prog 118 = true := by kernel_rfl
@[simp] theorem T_by118 : byT Try.prog 118 = 8 := by kernel_rfl
@[simp] theorem T_z118 : zT Try.prog 118 = some [.nilptr] := by kernel_rfl
@[simp] theorem T_sz119 : szT Try.prog 119 = 1 := by kernel_rfl
@[simp] theorem T_ag119 : aggT Try.prog 119 = some false := by kernel_rfl
@[simp] theorem T_sz120 : szT Try.prog 120 = 1 := by kernel_rfl
@[simp] theorem T_ag120 : aggT Try.prog 120 = some false := by kernel_rfl
@[simp] theorem T_sz121 : szT Try.prog 121 = 1 := by kernel_rfl
@[simp] theorem T_ag121 : aggT Try.prog 121 = some false := by kernel_rfl
@[simp] theorem T_sz122 : szT Try.prog 122 = 1 := by kernel_rfl
@[simp] theorem T_ag122 : aggT Try.prog 122 = some false := by kernel_rfl
@[simp] theorem T_sz123 : szT Try.prog 123 = 1 := by kernel_rfl
@[simp] theorem T_ag123 : aggT Try.prog 123 = some false := by kernel_rfl
@[simp] theorem T_sz124 : szT Try.prog 124 = 4 := by kernel_rfl
@[simp] theorem T_ag124 : aggT Try.prog 124 = some true := by kernel_rfl
@[simp] theorem T_el124 : elT Try.prog 124 = none := by kernel_rfl
@[simp] theorem T_ar124 : arrT Try.prog 124 = none := by kernel_rfl
@[simp] theorem T_by124 : byT Try.prog 124 = 40 := by kernel_rfl
@[simp] theorem T_f124_0 : fldT Try.prog 124 0 = some (0, 17) := by kernel_rfl
@[simp] theorem T_f124_1 : fldT Try.prog 124 1 = some (1, 17) := by kernel_rfl
@[simp] theorem T_f124_2 : fldT Try.prog 124 2 = some (2, 17) := by kernel_rfl
@[simp] theorem T_f124_3 : fldT Try.prog 124 3 = some (3, 9) := by kernel_rfl
@[simp] theorem T_if124 : infoAll Try.prog 124 = true := by kernel_rfl
@[simp] theorem T_z124 : zT Try.prog 124 = some [.nilptr, .nilptr, .nilptr, .str ByteArray.empty] := by kernel_rfl
@[simp] theorem T_sz125 : szT Try.prog 125 = 4 := by kernel_rfl
@[simp] theorem T_ag125 : aggT Try.prog 125 = some true := by kernel_rfl
@[simp] theorem T_el125 : elT Try.prog 125 = none := by kernel_rfl
@[simp] theorem T_ar125 : arrT Try.prog 125 = none := by kernel_rfl
@[simp] theorem T_by125 : byT Try.prog 125 = 40 := by kernel_rfl
@[simp] theorem T_f125_0 : fldT Try.prog 125 0 = some (0, 17) := by kernel_rfl
@[simp] theorem T_f125_1 : fldT Try.prog 125 1 = some (1, 17) := by kernel_rfl
@[simp] theorem T_f125_2 : fldT Try.prog 125 2 = some (2, 17) := by kernel_rfl
@[simp] theorem T_f125_3 : fldT Try.prog 125 3 = some (3, 9) := by kernel_rfl
@[simp] theorem T_if125 : infoAll Try.prog 125 = true := by kernel_rfl
@[simp] theorem T_z125 : zT Try.prog 125 = some [.nilptr, .nilptr, .nilptr, .str ByteArray.empty] := by kernel_rfl
@[simp] theorem T_sz126 : szT Try.prog 126 = 0 := by kernel_rfl
@[simp] theorem T_ag126 : aggT Try.prog 126 = some true := by kernel_rfl
@[simp] theorem T_el126 : elT Try.prog 126 = none := by kernel_rfl
@[simp] theorem T_ar126 : arrT Try.prog 126 = some (0, 16) := by kernel_rfl
@[simp] theorem T_st126 : strT Try.prog 126 = false := by kernel_rfl
@[simp] theorem T_by126 : byT Try.prog 126 = 0 := by kernel_rfl
@[simp] theorem T_sz127 : szT Try.prog 127 = 0 := by kernel_rfl
@[simp] theorem T_ag127 : aggT Try.prog 127 = some true := by kernel_rfl
@[simp] theorem T_el127 : elT Try.prog 127 = none := by kernel_rfl
@[simp] theorem T_ar127 : arrT Try.prog 127 = none := by kernel_rfl
@[simp] theorem T_by127 : byT Try.prog 127 = 0 := by kernel_rfl
@[simp] theorem T_f127_0 : fldT Try.prog 127 0 = some (0, 126) := by kernel_rfl
@[simp] theorem T_if127 : infoAll Try.prog 127 = true := by kernel_rfl
@[simp] theorem T_sz128 : szT Try.prog 128 = 0 := by kernel_rfl
@[simp] theorem T_ag128 : aggT Try.prog 128 = some true := by kernel_rfl
@[simp] theorem T_el128 : elT Try.prog 128 = none := by kernel_rfl
@[simp] theorem T_ar128 : arrT Try.prog 128 = none := by kernel_rfl
@[simp] theorem T_by128 : byT Try.prog 128 = 0 := by kernel_rfl
@[simp] theorem T_f128_0 : fldT Try.prog 128 0 = some (0, 126) := by kernel_rfl
@[simp] theorem T_if128 : infoAll Try.prog 128 = true := by kernel_rfl
@[simp] theorem T_sz129 : szT Try.prog 129 = 1 := by kernel_rfl
@[simp] theorem T_ag129 : aggT Try.prog 129 = some false := by kernel_rfl
@[simp] theorem T_sz130 : szT Try.prog 130 = 1 := by kernel_rfl
@[simp] theorem T_ag130 : aggT Try.prog 130 = some false := by kernel_rfl
@[simp] theorem T_el130 : elT Try.prog 130 = none := by kernel_rfl
@[simp] theorem T_ar130 : arrT Try.prog 130 = none := by kernel_rfl
@[simp] theorem T_in130 : intT Try.prog 130 = some .u8 := by kernel_rfl
@[simp] theorem T_bo130 : boolT Try.prog 130 = false := by kernel_rfl
@[simp] theorem T_bt130 : byteT Try.prog 130 = true := by kernel_rfl
@[simp] theorem T_by130 : byT Try.prog 130 = 1 := by kernel_rfl
@[simp] theorem T_z130 : zT Try.prog 130 = some [.int .u8 0] := by kernel_rfl
@[simp] theorem T_sz131 : szT Try.prog 131 = 1 := by kernel_rfl
@[simp] theorem T_ag131 : aggT Try.prog 131 = some false := by kernel_rfl
@[simp] theorem T_el131 : elT Try.prog 131 = none := by kernel_rfl
@[simp] theorem T_ar131 : arrT Try.prog 131 = none := by kernel_rfl
@[simp] theorem T_in131 : intT Try.prog 131 = some .u8 := by kernel_rfl
@[simp] theorem T_bo131 : boolT Try.prog 131 = false := by kernel_rfl
@[simp] theorem T_bt131 : byteT Try.prog 131 = true := by kernel_rfl
@[simp] theorem T_by131 : byT Try.prog 131 = 1 := by kernel_rfl
@[simp] theorem T_z131 : zT Try.prog 131 = some [.int .u8 0] := by kernel_rfl
@[simp] theorem T_sz132 : szT Try.prog 132 = 1 := by kernel_rfl
@[simp] theorem T_ag132 : aggT Try.prog 132 = some false := by kernel_rfl
@[simp] theorem T_sz133 : szT Try.prog 133 = 1 := by kernel_rfl
@[simp] theorem T_ag133 : aggT Try.prog 133 = some false := by kernel_rfl
@[simp] theorem T_el133 : elT Try.prog 133 = none := by kernel_rfl
@[simp] theorem T_ar133 : arrT Try.prog 133 = none := by kernel_rfl
@[simp] theorem T_st133 : strT Try.prog 133 = false := by kernel_rfl
@[simp] theorem T_pt133 : ptrT Try.prog 133 = true := by kernel_rfl
@[simp] theorem T_by133 : byT Try.prog 133 = 8 := by kernel_rfl
@[simp] theorem T_z133 : zT Try.prog 133 = some [.nilptr] := by kernel_rfl
@[simp] theorem T_sz134 : szT Try.prog 134 = 1 := by kernel_rfl
@[simp] theorem T_ag134 : aggT Try.prog 134 = some false := by kernel_rfl
@[simp] theorem T_el134 : elT Try.prog 134 = none := by kernel_rfl
@[simp] theorem T_ar134 : arrT Try.prog 134 = none := by kernel_rfl
@[simp] theorem T_in134 : intT Try.prog 134 = some .i32 := by kernel_rfl
@[simp] theorem T_bo134 : boolT Try.prog 134 = false := by kernel_rfl
@[simp] theorem T_bt134 : byteT Try.prog 134 = false := by kernel_rfl
@[simp] theorem T_by134 : byT Try.prog 134 = 4 := by kernel_rfl
@[simp] theorem T_z134 : zT Try.prog 134 = some [.int .i32 0] := by kernel_rfl
@[simp] theorem T_sz135 : szT Try.prog 135 = 1 := by kernel_rfl
@[simp] theorem T_ag135 : aggT Try.prog 135 = some false := by kernel_rfl
@[simp] theorem T_el135 : elT Try.prog 135 = none := by kernel_rfl
@[simp] theorem T_ar135 : arrT Try.prog 135 = none := by kernel_rfl
@[simp] theorem T_in135 : intT Try.prog 135 = some .i32 := by kernel_rfl
@[simp] theorem T_bo135 : boolT Try.prog 135 = false := by kernel_rfl
@[simp] theorem T_bt135 : byteT Try.prog 135 = false := by kernel_rfl
@[simp] theorem T_by135 : byT Try.prog 135 = 4 := by kernel_rfl
@[simp] theorem T_z135 : zT Try.prog 135 = some [.int .i32 0] := by kernel_rfl
@[simp] theorem T_sz136 : szT Try.prog 136 = 11 := by kernel_rfl
@[simp] theorem T_ag136 : aggT Try.prog 136 = some true := by kernel_rfl
@[simp] theorem T_el136 : elT Try.prog 136 = none := by kernel_rfl
@[simp] theorem T_ar136 : arrT Try.prog 136 = none := by kernel_rfl
@[simp] theorem T_by136 : byT Try.prog 136 = 48 := by kernel_rfl
@[simp] theorem T_f136_0 : fldT Try.prog 136 0 = some (0, 12) := by kernel_rfl
@[simp] theorem T_f136_1 : fldT Try.prog 136 1 = some (1, 12) := by kernel_rfl
@[simp] theorem T_f136_2 : fldT Try.prog 136 2 = some (2, 102) := by kernel_rfl
@[simp] theorem T_f136_3 : fldT Try.prog 136 3 = some (3, 130) := by kernel_rfl
@[simp] theorem T_f136_4 : fldT Try.prog 136 4 = some (4, 5) := by kernel_rfl
@[simp] theorem T_f136_5 : fldT Try.prog 136 5 = some (5, 5) := by kernel_rfl
@[simp] theorem T_f136_6 : fldT Try.prog 136 6 = some (6, 131) := by kernel_rfl
@[simp] theorem T_f136_7 : fldT Try.prog 136 7 = some (7, 132) := by kernel_rfl
@[simp] theorem T_f136_8 : fldT Try.prog 136 8 = some (8, 133) := by kernel_rfl
@[simp] theorem T_f136_9 : fldT Try.prog 136 9 = some (9, 134) := by kernel_rfl
@[simp] theorem T_f136_10 : fldT Try.prog 136 10 = some (10, 135) := by kernel_rfl
@[simp] theorem T_if136 : infoAll Try.prog 136 = true := by kernel_rfl
@[simp] theorem T_sz137 : szT Try.prog 137 = 11 := by kernel_rfl
@[simp] theorem T_ag137 : aggT Try.prog 137 = some true := by kernel_rfl
@[simp] theorem T_el137 : elT Try.prog 137 = none := by kernel_rfl
@[simp] theorem T_ar137 : arrT Try.prog 137 = none := by kernel_rfl
@[simp] theorem T_by137 : byT Try.prog 137 = 48 := by kernel_rfl
@[simp] theorem T_f137_0 : fldT Try.prog 137 0 = some (0, 12) := by kernel_rfl
@[simp] theorem T_f137_1 : fldT Try.prog 137 1 = some (1, 12) := by kernel_rfl
@[simp] theorem T_f137_2 : fldT Try.prog 137 2 = some (2, 102) := by kernel_rfl
@[simp] theorem T_f137_3 : fldT Try.prog 137 3 = some (3, 130) := by kernel_rfl
@[simp] theorem T_f137_4 : fldT Try.prog 137 4 = some (4, 5) := by kernel_rfl
@[simp] theorem T_f137_5 : fldT Try.prog 137 5 = some (5, 5) := by kernel_rfl
@[simp] theorem T_f137_6 : fldT Try.prog 137 6 = some (6, 131) := by kernel_rfl
@[simp] theorem T_f137_7 : fldT Try.prog 137 7 = some (7, 132) := by kernel_rfl
@[simp] theorem T_f137_8 : fldT Try.prog 137 8 = some (8, 133) := by kernel_rfl
@[simp] theorem T_f137_9 : fldT Try.prog 137 9 = some (9, 134) := by kernel_rfl
@[simp] theorem T_f137_10 : fldT Try.prog 137 10 = some (10, 135) := by kernel_rfl
@[simp] theorem T_if137 : infoAll Try.prog 137 = true := by kernel_rfl

theorem mixed : Try.prog.follows .mixedOrders = true := by kernel_rfl

end Go.Proofs.Ytkonafdbfciikaa
