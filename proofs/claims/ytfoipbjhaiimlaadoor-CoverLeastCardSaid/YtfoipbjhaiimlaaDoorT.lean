
/-
  What the operations ask of the types of this program. Printed by wip/types.py.
-/
import Derived.Test.YtfoipbjhaiimlaaDoorAmE
import Derived.Test.YtfoipbjhaiimlaaDoorChecked
namespace Go.Proofs.YtfoipbjhaiimlaaDoor
open Go.RowKit
set_option maxRecDepth 100000

@[simp] theorem T_sz1 : szT Tryd.prog 1 = 1 := by kernel_rfl
@[simp] theorem T_ag1 : aggT Tryd.prog 1 = some false := by kernel_rfl
@[simp] theorem T_sz2 : szT Tryd.prog 2 = 1 := by kernel_rfl
@[simp] theorem T_ag2 : aggT Tryd.prog 2 = some false := by kernel_rfl
@[simp] theorem T_el2 : elT Tryd.prog 2 = none := by kernel_rfl
@[simp] theorem T_ar2 : arrT Tryd.prog 2 = none := by kernel_rfl
@[simp] theorem T_in2 : intT Tryd.prog 2 = some .i64 := by kernel_rfl
@[simp] theorem T_bo2 : boolT Tryd.prog 2 = false := by kernel_rfl
@[simp] theorem T_bt2 : byteT Tryd.prog 2 = false := by kernel_rfl
@[simp] theorem T_by2 : byT Tryd.prog 2 = 8 := by kernel_rfl
@[simp] theorem T_z2 : zT Tryd.prog 2 = some [.int .i64 0] := by kernel_rfl
@[simp] theorem T_sz3 : szT Tryd.prog 3 = 1 := by kernel_rfl
@[simp] theorem T_ag3 : aggT Tryd.prog 3 = some false := by kernel_rfl
@[simp] theorem T_el3 : elT Tryd.prog 3 = none := by kernel_rfl
@[simp] theorem T_ar3 : arrT Tryd.prog 3 = none := by kernel_rfl
@[simp] theorem T_in3 : intT Tryd.prog 3 = some .i64 := by kernel_rfl
@[simp] theorem T_bo3 : boolT Tryd.prog 3 = false := by kernel_rfl
@[simp] theorem T_bt3 : byteT Tryd.prog 3 = false := by kernel_rfl
@[simp] theorem T_by3 : byT Tryd.prog 3 = 8 := by kernel_rfl
@[simp] theorem T_z3 : zT Tryd.prog 3 = some [.int .i64 0] := by kernel_rfl
@[simp] theorem T_sz4 : szT Tryd.prog 4 = 1 := by kernel_rfl
@[simp] theorem T_ag4 : aggT Tryd.prog 4 = some false := by kernel_rfl
@[simp] theorem T_in4 : intT Tryd.prog 4 = none := by kernel_rfl
@[simp] theorem T_bo4 : boolT Tryd.prog 4 = true := by kernel_rfl
@[simp] theorem T_bt4 : byteT Tryd.prog 4 = false := by kernel_rfl
@[simp] theorem T_by4 : byT Tryd.prog 4 = 1 := by kernel_rfl
@[simp] theorem T_z4 : zT Tryd.prog 4 = some [.bool false] := by kernel_rfl
@[simp] theorem T_sz5 : szT Tryd.prog 5 = 1 := by kernel_rfl
@[simp] theorem T_ag5 : aggT Tryd.prog 5 = some false := by kernel_rfl
@[simp] theorem T_el5 : elT Tryd.prog 5 = none := by kernel_rfl
@[simp] theorem T_ar5 : arrT Tryd.prog 5 = none := by kernel_rfl
@[simp] theorem T_in5 : intT Tryd.prog 5 = some .u8 := by kernel_rfl
@[simp] theorem T_bo5 : boolT Tryd.prog 5 = false := by kernel_rfl
@[simp] theorem T_bt5 : byteT Tryd.prog 5 = true := by kernel_rfl
@[simp] theorem T_by5 : byT Tryd.prog 5 = 1 := by kernel_rfl
@[simp] theorem T_z5 : zT Tryd.prog 5 = some [.int .u8 0] := by kernel_rfl
@[simp] theorem T_sz6 : szT Tryd.prog 6 = 1 := by kernel_rfl
@[simp] theorem T_ag6 : aggT Tryd.prog 6 = some false := by kernel_rfl
@[simp] theorem T_el6 : elT Tryd.prog 6 = none := by kernel_rfl
@[simp] theorem T_ar6 : arrT Tryd.prog 6 = none := by kernel_rfl
@[simp] theorem T_in6 : intT Tryd.prog 6 = some .u8 := by kernel_rfl
@[simp] theorem T_bo6 : boolT Tryd.prog 6 = false := by kernel_rfl
@[simp] theorem T_bt6 : byteT Tryd.prog 6 = true := by kernel_rfl
@[simp] theorem T_by6 : byT Tryd.prog 6 = 1 := by kernel_rfl
@[simp] theorem T_z6 : zT Tryd.prog 6 = some [.int .u8 0] := by kernel_rfl
@[simp] theorem T_sz7 : szT Tryd.prog 7 = 4 := by kernel_rfl
@[simp] theorem T_ag7 : aggT Tryd.prog 7 = some true := by kernel_rfl
@[simp] theorem T_el7 : elT Tryd.prog 7 = none := by kernel_rfl
@[simp] theorem T_ar7 : arrT Tryd.prog 7 = none := by kernel_rfl
@[simp] theorem T_by7 : byT Tryd.prog 7 = 24 := by kernel_rfl
@[simp] theorem T_f7_0 : fldT Tryd.prog 7 0 = some (0, 2) := by kernel_rfl
@[simp] theorem T_f7_1 : fldT Tryd.prog 7 1 = some (1, 3) := by kernel_rfl
@[simp] theorem T_f7_2 : fldT Tryd.prog 7 2 = some (2, 4) := by kernel_rfl
@[simp] theorem T_f7_3 : fldT Tryd.prog 7 3 = some (3, 6) := by kernel_rfl
@[simp] theorem T_if7 : infoAll Tryd.prog 7 = true := by kernel_rfl
@[simp] theorem T_z7 : zT Tryd.prog 7 = some [.int .i64 0, .int .i64 0, .bool false, .int .u8 0] := by kernel_rfl
@[simp] theorem T_sz8 : szT Tryd.prog 8 = 4 := by kernel_rfl
@[simp] theorem T_ag8 : aggT Tryd.prog 8 = some true := by kernel_rfl
@[simp] theorem T_el8 : elT Tryd.prog 8 = none := by kernel_rfl
@[simp] theorem T_ar8 : arrT Tryd.prog 8 = none := by kernel_rfl
@[simp] theorem T_by8 : byT Tryd.prog 8 = 24 := by kernel_rfl
@[simp] theorem T_f8_0 : fldT Tryd.prog 8 0 = some (0, 2) := by kernel_rfl
@[simp] theorem T_f8_1 : fldT Tryd.prog 8 1 = some (1, 3) := by kernel_rfl
@[simp] theorem T_f8_2 : fldT Tryd.prog 8 2 = some (2, 4) := by kernel_rfl
@[simp] theorem T_f8_3 : fldT Tryd.prog 8 3 = some (3, 6) := by kernel_rfl
@[simp] theorem T_if8 : infoAll Tryd.prog 8 = true := by kernel_rfl
@[simp] theorem T_z8 : zT Tryd.prog 8 = some [.int .i64 0, .int .i64 0, .bool false, .int .u8 0] := by kernel_rfl
@[simp] theorem T_sz9 : szT Tryd.prog 9 = 1 := by kernel_rfl
@[simp] theorem T_ag9 : aggT Tryd.prog 9 = some false := by kernel_rfl
@[simp] theorem T_el9 : elT Tryd.prog 9 = none := by kernel_rfl
@[simp] theorem T_ar9 : arrT Tryd.prog 9 = none := by kernel_rfl
@[simp] theorem T_st9 : strT Tryd.prog 9 = true := by kernel_rfl
@[simp] theorem T_in9 : intT Tryd.prog 9 = none := by kernel_rfl
@[simp] theorem T_bo9 : boolT Tryd.prog 9 = false := by kernel_rfl
@[simp] theorem T_bt9 : byteT Tryd.prog 9 = false := by kernel_rfl
@[simp] theorem T_by9 : byT Tryd.prog 9 = 16 := by kernel_rfl
@[simp] theorem T_z9 : zT Tryd.prog 9 = some [.str ByteArray.empty] := by kernel_rfl
@[simp] theorem T_sz10 : szT Tryd.prog 10 = 1 := by kernel_rfl
@[simp] theorem T_ag10 : aggT Tryd.prog 10 = some false := by kernel_rfl
@[simp] theorem T_el10 : elT Tryd.prog 10 = none := by kernel_rfl
@[simp] theorem T_ar10 : arrT Tryd.prog 10 = none := by kernel_rfl
@[simp] theorem T_st10 : strT Tryd.prog 10 = true := by kernel_rfl
@[simp] theorem T_in10 : intT Tryd.prog 10 = none := by kernel_rfl
@[simp] theorem T_bo10 : boolT Tryd.prog 10 = false := by kernel_rfl
@[simp] theorem T_bt10 : byteT Tryd.prog 10 = false := by kernel_rfl
@[simp] theorem T_by10 : byT Tryd.prog 10 = 16 := by kernel_rfl
@[simp] theorem T_z10 : zT Tryd.prog 10 = some [.str ByteArray.empty] := by kernel_rfl
@[simp] theorem T_sz11 : szT Tryd.prog 11 = 1 := by kernel_rfl
@[simp] theorem T_ag11 : aggT Tryd.prog 11 = some false := by kernel_rfl
@[simp] theorem T_el11 : elT Tryd.prog 11 = none := by kernel_rfl
@[simp] theorem T_ar11 : arrT Tryd.prog 11 = none := by kernel_rfl
@[simp] theorem T_st11 : strT Tryd.prog 11 = true := by kernel_rfl
@[simp] theorem T_in11 : intT Tryd.prog 11 = none := by kernel_rfl
@[simp] theorem T_bo11 : boolT Tryd.prog 11 = false := by kernel_rfl
@[simp] theorem T_bt11 : byteT Tryd.prog 11 = false := by kernel_rfl
@[simp] theorem T_by11 : byT Tryd.prog 11 = 16 := by kernel_rfl
@[simp] theorem T_z11 : zT Tryd.prog 11 = some [.str ByteArray.empty] := by kernel_rfl
@[simp] theorem T_sz12 : szT Tryd.prog 12 = 1 := by kernel_rfl
@[simp] theorem T_ag12 : aggT Tryd.prog 12 = some false := by kernel_rfl
@[simp] theorem T_el12 : elT Tryd.prog 12 = none := by kernel_rfl
@[simp] theorem T_ar12 : arrT Tryd.prog 12 = none := by kernel_rfl
@[simp] theorem T_in12 : intT Tryd.prog 12 = some .u64 := by kernel_rfl
@[simp] theorem T_bo12 : boolT Tryd.prog 12 = false := by kernel_rfl
@[simp] theorem T_bt12 : byteT Tryd.prog 12 = false := by kernel_rfl
@[simp] theorem T_by12 : byT Tryd.prog 12 = 8 := by kernel_rfl
@[simp] theorem T_z12 : zT Tryd.prog 12 = some [.int .u64 0] := by kernel_rfl
@[simp] theorem T_sz13 : szT Tryd.prog 13 = 2 := by kernel_rfl
@[simp] theorem T_ag13 : aggT Tryd.prog 13 = some true := by kernel_rfl
@[simp] theorem T_el13 : elT Tryd.prog 13 = none := by kernel_rfl
@[simp] theorem T_ar13 : arrT Tryd.prog 13 = none := by kernel_rfl
@[simp] theorem T_by13 : byT Tryd.prog 13 = 24 := by kernel_rfl
@[simp] theorem T_f13_0 : fldT Tryd.prog 13 0 = some (0, 9) := by kernel_rfl
@[simp] theorem T_f13_1 : fldT Tryd.prog 13 1 = some (1, 12) := by kernel_rfl
@[simp] theorem T_if13 : infoAll Tryd.prog 13 = true := by kernel_rfl
@[simp] theorem T_z13 : zT Tryd.prog 13 = some [.str ByteArray.empty, .int .u64 0] := by kernel_rfl
@[simp] theorem T_sz14 : szT Tryd.prog 14 = 2 := by kernel_rfl
@[simp] theorem T_ag14 : aggT Tryd.prog 14 = some true := by kernel_rfl
@[simp] theorem T_el14 : elT Tryd.prog 14 = none := by kernel_rfl
@[simp] theorem T_ar14 : arrT Tryd.prog 14 = none := by kernel_rfl
@[simp] theorem T_by14 : byT Tryd.prog 14 = 24 := by kernel_rfl
@[simp] theorem T_f14_0 : fldT Tryd.prog 14 0 = some (0, 9) := by kernel_rfl
@[simp] theorem T_f14_1 : fldT Tryd.prog 14 1 = some (1, 12) := by kernel_rfl
@[simp] theorem T_if14 : infoAll Tryd.prog 14 = true := by kernel_rfl
@[simp] theorem T_z14 : zT Tryd.prog 14 = some [.str ByteArray.empty, .int .u64 0] := by kernel_rfl
@[simp] theorem T_sz15 : szT Tryd.prog 15 = 1 := by kernel_rfl
@[simp] theorem T_ag15 : aggT Tryd.prog 15 = some false := by kernel_rfl
@[simp] theorem T_el15 : elT Tryd.prog 15 = none := by kernel_rfl
@[simp] theorem T_ar15 : arrT Tryd.prog 15 = none := by kernel_rfl
@[simp] theorem T_st15 : strT Tryd.prog 15 = false := by kernel_rfl
@[simp] theorem T_pt15 : ptrT Tryd.prog 15 = true := by kernel_rfl
@[simp] theorem T_by15 : byT Tryd.prog 15 = 8 := by kernel_rfl
@[simp] theorem T_z15 : zT Tryd.prog 15 = some [.nilptr] := by kernel_rfl
@[simp] theorem T_sz16 : szT Tryd.prog 16 = 1 := by kernel_rfl
@[simp] theorem T_ag16 : aggT Tryd.prog 16 = some false := by kernel_rfl
@[simp] theorem T_el16 : elT Tryd.prog 16 = none := by kernel_rfl
@[simp] theorem T_ar16 : arrT Tryd.prog 16 = none := by kernel_rfl
@[simp] theorem T_st16 : strT Tryd.prog 16 = false := by kernel_rfl
@[simp] theorem T_pt16 : ptrT Tryd.prog 16 = true := by kernel_rfl
@[simp] theorem T_by16 : byT Tryd.prog 16 = 8 := by kernel_rfl
@[simp] theorem T_z16 : zT Tryd.prog 16 = some [.nilptr] := by kernel_rfl
@[simp] theorem T_sz17 : szT Tryd.prog 17 = 1 := by kernel_rfl
@[simp] theorem T_ag17 : aggT Tryd.prog 17 = some false := by kernel_rfl
@[simp] theorem T_el17 : elT Tryd.prog 17 = none := by kernel_rfl
@[simp] theorem T_ar17 : arrT Tryd.prog 17 = none := by kernel_rfl
@[simp] theorem T_st17 : strT Tryd.prog 17 = false := by kernel_rfl
@[simp] theorem T_pt17 : ptrT Tryd.prog 17 = true := by kernel_rfl
@[simp] theorem T_by17 : byT Tryd.prog 17 = 8 := by kernel_rfl
@[simp] theorem T_z17 : zT Tryd.prog 17 = some [.nilptr] := by kernel_rfl
@[simp] theorem T_sz18 : szT Tryd.prog 18 = 1 := by kernel_rfl
@[simp] theorem T_ag18 : aggT Tryd.prog 18 = some true := by kernel_rfl
@[simp] theorem T_el18 : elT Tryd.prog 18 = none := by kernel_rfl
@[simp] theorem T_ar18 : arrT Tryd.prog 18 = none := by kernel_rfl
@[simp] theorem T_by18 : byT Tryd.prog 18 = 8 := by kernel_rfl
@[simp] theorem T_f18_0 : fldT Tryd.prog 18 0 = some (0, 17) := by kernel_rfl
@[simp] theorem T_if18 : infoAll Tryd.prog 18 = true := by kernel_rfl
@[simp] theorem T_z18 : zT Tryd.prog 18 = some [.nilptr] := by kernel_rfl
@[simp] theorem T_sz19 : szT Tryd.prog 19 = 1 := by kernel_rfl
@[simp] theorem T_ag19 : aggT Tryd.prog 19 = some true := by kernel_rfl
@[simp] theorem T_el19 : elT Tryd.prog 19 = none := by kernel_rfl
@[simp] theorem T_ar19 : arrT Tryd.prog 19 = none := by kernel_rfl
@[simp] theorem T_by19 : byT Tryd.prog 19 = 8 := by kernel_rfl
@[simp] theorem T_f19_0 : fldT Tryd.prog 19 0 = some (0, 17) := by kernel_rfl
@[simp] theorem T_if19 : infoAll Tryd.prog 19 = true := by kernel_rfl
@[simp] theorem T_z19 : zT Tryd.prog 19 = some [.nilptr] := by kernel_rfl
@[simp] theorem T_sz21 : szT Tryd.prog 21 = 1 := by kernel_rfl
@[simp] theorem T_ag21 : aggT Tryd.prog 21 = some false := by kernel_rfl
@[simp] theorem T_el21 : elT Tryd.prog 21 = none := by kernel_rfl
@[simp] theorem T_ar21 : arrT Tryd.prog 21 = none := by kernel_rfl
@[simp] theorem T_in21 : intT Tryd.prog 21 = some .i32 := by kernel_rfl
@[simp] theorem T_bo21 : boolT Tryd.prog 21 = false := by kernel_rfl
@[simp] theorem T_bt21 : byteT Tryd.prog 21 = false := by kernel_rfl
@[simp] theorem T_by21 : byT Tryd.prog 21 = 4 := by kernel_rfl
@[simp] theorem T_z21 : zT Tryd.prog 21 = some [.int .i32 0] := by kernel_rfl
@[simp] theorem T_sz22 : szT Tryd.prog 22 = 1 := by kernel_rfl
@[simp] theorem T_ag22 : aggT Tryd.prog 22 = some false := by kernel_rfl
@[simp] theorem T_el22 : elT Tryd.prog 22 = some 31 := by kernel_rfl
@[simp] theorem T_ar22 : arrT Tryd.prog 22 = none := by kernel_rfl
@[simp] theorem T_st22 : strT Tryd.prog 22 = false := by kernel_rfl
@[simp] theorem T_by22 : byT Tryd.prog 22 = 24 := by kernel_rfl
@[simp] theorem T_z22 : zT Tryd.prog 22 = some [.slice 1 true []] := by kernel_rfl
@[simp] theorem T_sz23 : szT Tryd.prog 23 = 2 := by kernel_rfl
@[simp] theorem T_ag23 : aggT Tryd.prog 23 = some true := by kernel_rfl
@[simp] theorem T_el23 : elT Tryd.prog 23 = none := by kernel_rfl
@[simp] theorem T_ar23 : arrT Tryd.prog 23 = none := by kernel_rfl
@[simp] theorem T_by23 : byT Tryd.prog 23 = 32 := by kernel_rfl
@[simp] theorem T_f23_0 : fldT Tryd.prog 23 0 = some (0, 3) := by kernel_rfl
@[simp] theorem T_f23_1 : fldT Tryd.prog 23 1 = some (1, 22) := by kernel_rfl
@[simp] theorem T_if23 : infoAll Tryd.prog 23 = true := by kernel_rfl
@[simp] theorem T_z23 : zT Tryd.prog 23 = some [.int .i64 0, .slice 1 true []] := by kernel_rfl
@[simp] theorem T_sz24 : szT Tryd.prog 24 = 2 := by kernel_rfl
@[simp] theorem T_ag24 : aggT Tryd.prog 24 = some true := by kernel_rfl
@[simp] theorem T_el24 : elT Tryd.prog 24 = none := by kernel_rfl
@[simp] theorem T_ar24 : arrT Tryd.prog 24 = none := by kernel_rfl
@[simp] theorem T_by24 : byT Tryd.prog 24 = 32 := by kernel_rfl
@[simp] theorem T_f24_0 : fldT Tryd.prog 24 0 = some (0, 3) := by kernel_rfl
@[simp] theorem T_f24_1 : fldT Tryd.prog 24 1 = some (1, 22) := by kernel_rfl
@[simp] theorem T_if24 : infoAll Tryd.prog 24 = true := by kernel_rfl
@[simp] theorem T_z24 : zT Tryd.prog 24 = some [.int .i64 0, .slice 1 true []] := by kernel_rfl
@[simp] theorem T_sz25 : szT Tryd.prog 25 = 1 := by kernel_rfl
@[simp] theorem T_ag25 : aggT Tryd.prog 25 = some false := by kernel_rfl
@[simp] theorem T_el25 : elT Tryd.prog 25 = some 30 := by kernel_rfl
@[simp] theorem T_ar25 : arrT Tryd.prog 25 = none := by kernel_rfl
@[simp] theorem T_st25 : strT Tryd.prog 25 = false := by kernel_rfl
@[simp] theorem T_by25 : byT Tryd.prog 25 = 24 := by kernel_rfl
@[simp] theorem T_z25 : zT Tryd.prog 25 = some [.slice 2 true []] := by kernel_rfl
@[simp] theorem T_sz26 : szT Tryd.prog 26 = 1 := by kernel_rfl
@[simp] theorem T_ag26 : aggT Tryd.prog 26 = some false := by kernel_rfl
@[simp] theorem T_sz27 : szT Tryd.prog 27 = 1 := by kernel_rfl
@[simp] theorem T_ag27 : aggT Tryd.prog 27 = some false := by kernel_rfl
@[simp] theorem T_sz28 : szT Tryd.prog 28 = 1 := by kernel_rfl
@[simp] theorem T_ag28 : aggT Tryd.prog 28 = some false := by kernel_rfl
@[simp] theorem T_sz29 : szT Tryd.prog 29 = 2 := by kernel_rfl
@[simp] theorem T_ag29 : aggT Tryd.prog 29 = some true := by kernel_rfl
@[simp] theorem T_el29 : elT Tryd.prog 29 = none := by kernel_rfl
@[simp] theorem T_ar29 : arrT Tryd.prog 29 = none := by kernel_rfl
@[simp] theorem T_by29 : byT Tryd.prog 29 = 16 := by kernel_rfl
@[simp] theorem T_f29_0 : fldT Tryd.prog 29 0 = some (0, 3) := by kernel_rfl
@[simp] theorem T_f29_1 : fldT Tryd.prog 29 1 = some (1, 3) := by kernel_rfl
@[simp] theorem T_if29 : infoAll Tryd.prog 29 = true := by kernel_rfl
@[simp] theorem T_z29 : zT Tryd.prog 29 = some [.int .i64 0, .int .i64 0] := by kernel_rfl
@[simp] theorem T_sz30 : szT Tryd.prog 30 = 2 := by kernel_rfl
@[simp] theorem T_ag30 : aggT Tryd.prog 30 = some true := by kernel_rfl
@[simp] theorem T_el30 : elT Tryd.prog 30 = none := by kernel_rfl
@[simp] theorem T_ar30 : arrT Tryd.prog 30 = none := by kernel_rfl
@[simp] theorem T_by30 : byT Tryd.prog 30 = 16 := by kernel_rfl
@[simp] theorem T_f30_0 : fldT Tryd.prog 30 0 = some (0, 3) := by kernel_rfl
@[simp] theorem T_f30_1 : fldT Tryd.prog 30 1 = some (1, 3) := by kernel_rfl
@[simp] theorem T_fl30 : flatT Tryd.prog 30 = some [.i, .i] := by kernel_rfl
@[simp] theorem T_if30 : infoAll Tryd.prog 30 = true := by kernel_rfl
@[simp] theorem T_z30 : zT Tryd.prog 30 = some [.int .i64 0, .int .i64 0] := by kernel_rfl
@[simp] theorem T_sz31 : szT Tryd.prog 31 = 1 := by kernel_rfl
@[simp] theorem T_ag31 : aggT Tryd.prog 31 = some false := by kernel_rfl
@[simp] theorem T_el31 : elT Tryd.prog 31 = some 3 := by kernel_rfl
@[simp] theorem T_ar31 : arrT Tryd.prog 31 = none := by kernel_rfl
@[simp] theorem T_st31 : strT Tryd.prog 31 = false := by kernel_rfl
@[simp] theorem T_by31 : byT Tryd.prog 31 = 24 := by kernel_rfl
@[simp] theorem T_z31 : zT Tryd.prog 31 = some [.slice 1 true []] := by kernel_rfl
@[simp] theorem T_sz32 : szT Tryd.prog 32 = 1 := by kernel_rfl
@[simp] theorem T_ag32 : aggT Tryd.prog 32 = some false := by kernel_rfl
@[simp] theorem T_el32 : elT Tryd.prog 32 = some 3 := by kernel_rfl
@[simp] theorem T_ar32 : arrT Tryd.prog 32 = none := by kernel_rfl
@[simp] theorem T_st32 : strT Tryd.prog 32 = false := by kernel_rfl
@[simp] theorem T_by32 : byT Tryd.prog 32 = 24 := by kernel_rfl
@[simp] theorem T_z32 : zT Tryd.prog 32 = some [.slice 1 true []] := by kernel_rfl
@[simp] theorem T_sz34 : szT Tryd.prog 34 = 1 := by kernel_rfl
@[simp] theorem T_ag34 : aggT Tryd.prog 34 = some false := by kernel_rfl
@[simp] theorem T_sz35 : szT Tryd.prog 35 = 1 := by kernel_rfl
@[simp] theorem T_ag35 : aggT Tryd.prog 35 = some false := by kernel_rfl
@[simp] theorem T_sz36 : szT Tryd.prog 36 = 1 := by kernel_rfl
@[simp] theorem T_ag36 : aggT Tryd.prog 36 = some false := by kernel_rfl
@[simp] theorem T_sz37 : szT Tryd.prog 37 = 1 := by kernel_rfl
@[simp] theorem T_ag37 : aggT Tryd.prog 37 = some false := by kernel_rfl
@[simp] theorem T_el37 : elT Tryd.prog 37 = none := by kernel_rfl
@[simp] theorem T_ar37 : arrT Tryd.prog 37 = none := by kernel_rfl
@[simp] theorem T_in37 : intT Tryd.prog 37 = some .i64 := by kernel_rfl
@[simp] theorem T_bo37 : boolT Tryd.prog 37 = false := by kernel_rfl
@[simp] theorem T_bt37 : byteT Tryd.prog 37 = false := by kernel_rfl
@[simp] theorem T_by37 : byT Tryd.prog 37 = 8 := by kernel_rfl
@[simp] theorem T_z37 : zT Tryd.prog 37 = some [.int .i64 0] := by kernel_rfl
@[simp] theorem T_sz39 : szT Tryd.prog 39 = 1 := by kernel_rfl
@[simp] theorem T_ag39 : aggT Tryd.prog 39 = some false := by kernel_rfl
@[simp] theorem T_sz41 : szT Tryd.prog 41 = 1 := by kernel_rfl
@[simp] theorem T_ag41 : aggT Tryd.prog 41 = some false := by kernel_rfl
@[simp] theorem T_sz42 : szT Tryd.prog 42 = 1 := by kernel_rfl
@[simp] theorem T_ag42 : aggT Tryd.prog 42 = some false := by kernel_rfl
@[simp] theorem T_el42 : elT Tryd.prog 42 = some 25 := by kernel_rfl
@[simp] theorem T_ar42 : arrT Tryd.prog 42 = none := by kernel_rfl
@[simp] theorem T_st42 : strT Tryd.prog 42 = false := by kernel_rfl
@[simp] theorem T_by42 : byT Tryd.prog 42 = 24 := by kernel_rfl
@[simp] theorem T_z42 : zT Tryd.prog 42 = some [.slice 1 true []] := by kernel_rfl
@[simp] theorem T_sz43 : szT Tryd.prog 43 = 3 := by kernel_rfl
@[simp] theorem T_ag43 : aggT Tryd.prog 43 = some true := by kernel_rfl
@[simp] theorem T_el43 : elT Tryd.prog 43 = none := by kernel_rfl
@[simp] theorem T_ar43 : arrT Tryd.prog 43 = none := by kernel_rfl
@[simp] theorem T_by43 : byT Tryd.prog 43 = 72 := by kernel_rfl
@[simp] theorem T_f43_0 : fldT Tryd.prog 43 0 = some (0, 42) := by kernel_rfl
@[simp] theorem T_f43_1 : fldT Tryd.prog 43 1 = some (1, 25) := by kernel_rfl
@[simp] theorem T_f43_2 : fldT Tryd.prog 43 2 = some (2, 25) := by kernel_rfl
@[simp] theorem T_if43 : infoAll Tryd.prog 43 = true := by kernel_rfl
@[simp] theorem T_z43 : zT Tryd.prog 43 = some [.slice 1 true [], .slice 2 true [], .slice 2 true []] := by kernel_rfl
@[simp] theorem T_sz44 : szT Tryd.prog 44 = 3 := by kernel_rfl
@[simp] theorem T_ag44 : aggT Tryd.prog 44 = some true := by kernel_rfl
@[simp] theorem T_el44 : elT Tryd.prog 44 = none := by kernel_rfl
@[simp] theorem T_ar44 : arrT Tryd.prog 44 = none := by kernel_rfl
@[simp] theorem T_by44 : byT Tryd.prog 44 = 72 := by kernel_rfl
@[simp] theorem T_f44_0 : fldT Tryd.prog 44 0 = some (0, 42) := by kernel_rfl
@[simp] theorem T_f44_1 : fldT Tryd.prog 44 1 = some (1, 25) := by kernel_rfl
@[simp] theorem T_f44_2 : fldT Tryd.prog 44 2 = some (2, 25) := by kernel_rfl
@[simp] theorem T_if44 : infoAll Tryd.prog 44 = true := by kernel_rfl
@[simp] theorem T_z44 : zT Tryd.prog 44 = some [.slice 1 true [], .slice 2 true [], .slice 2 true []] := by kernel_rfl
@[simp] theorem T_sz46 : szT Tryd.prog 46 = 1 := by kernel_rfl
@[simp] theorem T_ag46 : aggT Tryd.prog 46 = some false := by kernel_rfl
@[simp] theorem T_sz47 : szT Tryd.prog 47 = 1 := by kernel_rfl
@[simp] theorem T_ag47 : aggT Tryd.prog 47 = some false := by kernel_rfl
@[simp] theorem T_sz48 : szT Tryd.prog 48 = 1 := by kernel_rfl
@[simp] theorem T_ag48 : aggT Tryd.prog 48 = some false := by kernel_rfl
@[simp] theorem T_sz49 : szT Tryd.prog 49 = 1 := by kernel_rfl
@[simp] theorem T_ag49 : aggT Tryd.prog 49 = some false := by kernel_rfl
@[simp] theorem T_sz50 : szT Tryd.prog 50 = 1 := by kernel_rfl
@[simp] theorem T_ag50 : aggT Tryd.prog 50 = some false := by kernel_rfl
@[simp] theorem T_sz51 : szT Tryd.prog 51 = 1 := by kernel_rfl
@[simp] theorem T_ag51 : aggT Tryd.prog 51 = some false := by kernel_rfl
@[simp] theorem T_sz52 : szT Tryd.prog 52 = 1 := by kernel_rfl
@[simp] theorem T_ag52 : aggT Tryd.prog 52 = some false := by kernel_rfl
@[simp] theorem T_sz53 : szT Tryd.prog 53 = 1 := by kernel_rfl
@[simp] theorem T_ag53 : aggT Tryd.prog 53 = some false := by kernel_rfl
@[simp] theorem T_sz54 : szT Tryd.prog 54 = 1 := by kernel_rfl
@[simp] theorem T_ag54 : aggT Tryd.prog 54 = some false := by kernel_rfl
@[simp] theorem T_sz55 : szT Tryd.prog 55 = 1 := by kernel_rfl
@[simp] theorem T_ag55 : aggT Tryd.prog 55 = some false := by kernel_rfl
@[simp] theorem T_sz56 : szT Tryd.prog 56 = 1 := by kernel_rfl
@[simp] theorem T_ag56 : aggT Tryd.prog 56 = some false := by kernel_rfl
@[simp] theorem T_sz57 : szT Tryd.prog 57 = 1 := by kernel_rfl
@[simp] theorem T_ag57 : aggT Tryd.prog 57 = some false := by kernel_rfl
@[simp] theorem T_sz58 : szT Tryd.prog 58 = 1 := by kernel_rfl
@[simp] theorem T_ag58 : aggT Tryd.prog 58 = some false := by kernel_rfl
@[simp] theorem T_el58 : elT Tryd.prog 58 = some 32 := by kernel_rfl
@[simp] theorem T_ar58 : arrT Tryd.prog 58 = none := by kernel_rfl
@[simp] theorem T_st58 : strT Tryd.prog 58 = false := by kernel_rfl
@[simp] theorem T_by58 : byT Tryd.prog 58 = 24 := by kernel_rfl
@[simp] theorem T_z58 : zT Tryd.prog 58 = some [.slice 1 true []] := by kernel_rfl
@[simp] theorem T_sz59 : szT Tryd.prog 59 = 1 := by kernel_rfl
@[simp] theorem T_ag59 : aggT Tryd.prog 59 = some false := by kernel_rfl
@[simp] theorem T_sz60 : szT Tryd.prog 60 = 1 := by kernel_rfl
@[simp] theorem T_ag60 : aggT Tryd.prog 60 = some false := by kernel_rfl
@[simp] theorem T_sz61 : szT Tryd.prog 61 = 1 := by kernel_rfl
@[simp] theorem T_ag61 : aggT Tryd.prog 61 = some false := by kernel_rfl
@[simp] theorem T_sz62 : szT Tryd.prog 62 = 1 := by kernel_rfl
@[simp] theorem T_ag62 : aggT Tryd.prog 62 = some false := by kernel_rfl
@[simp] theorem T_sz63 : szT Tryd.prog 63 = 1 := by kernel_rfl
@[simp] theorem T_ag63 : aggT Tryd.prog 63 = some false := by kernel_rfl
@[simp] theorem T_sz64 : szT Tryd.prog 64 = 1 := by kernel_rfl
@[simp] theorem T_ag64 : aggT Tryd.prog 64 = some false := by kernel_rfl
@[simp] theorem T_sz65 : szT Tryd.prog 65 = 1 := by kernel_rfl
@[simp] theorem T_ag65 : aggT Tryd.prog 65 = some false := by kernel_rfl
@[simp] theorem T_sz67 : szT Tryd.prog 67 = 1 := by kernel_rfl
@[simp] theorem T_ag67 : aggT Tryd.prog 67 = some false := by kernel_rfl
@[simp] theorem T_sz68 : szT Tryd.prog 68 = 1 := by kernel_rfl
@[simp] theorem T_ag68 : aggT Tryd.prog 68 = some false := by kernel_rfl
@[simp] theorem T_sz70 : szT Tryd.prog 70 = 1 := by kernel_rfl
@[simp] theorem T_ag70 : aggT Tryd.prog 70 = some false := by kernel_rfl
@[simp] theorem T_sz71 : szT Tryd.prog 71 = 1 := by kernel_rfl
@[simp] theorem T_ag71 : aggT Tryd.prog 71 = some false := by kernel_rfl
@[simp] theorem T_sz72 : szT Tryd.prog 72 = 1 := by kernel_rfl
@[simp] theorem T_ag72 : aggT Tryd.prog 72 = some false := by kernel_rfl
@[simp] theorem T_sz74 : szT Tryd.prog 74 = 1 := by kernel_rfl
@[simp] theorem T_ag74 : aggT Tryd.prog 74 = some false := by kernel_rfl
@[simp] theorem T_sz76 : szT Tryd.prog 76 = 1 := by kernel_rfl
@[simp] theorem T_ag76 : aggT Tryd.prog 76 = some false := by kernel_rfl
@[simp] theorem T_sz77 : szT Tryd.prog 77 = 1 := by kernel_rfl
@[simp] theorem T_ag77 : aggT Tryd.prog 77 = some false := by kernel_rfl
@[simp] theorem T_sz78 : szT Tryd.prog 78 = 1 := by kernel_rfl
@[simp] theorem T_ag78 : aggT Tryd.prog 78 = some false := by kernel_rfl
@[simp] theorem T_sz79 : szT Tryd.prog 79 = 1 := by kernel_rfl
@[simp] theorem T_ag79 : aggT Tryd.prog 79 = some false := by kernel_rfl
@[simp] theorem T_sz80 : szT Tryd.prog 80 = 1 := by kernel_rfl
@[simp] theorem T_ag80 : aggT Tryd.prog 80 = some false := by kernel_rfl
@[simp] theorem T_sz81 : szT Tryd.prog 81 = 1 := by kernel_rfl
@[simp] theorem T_ag81 : aggT Tryd.prog 81 = some false := by kernel_rfl
@[simp] theorem T_el81 : elT Tryd.prog 81 = none := by kernel_rfl
@[simp] theorem T_ar81 : arrT Tryd.prog 81 = none := by kernel_rfl
@[simp] theorem T_in81 : intT Tryd.prog 81 = some .u64 := by kernel_rfl
@[simp] theorem T_bo81 : boolT Tryd.prog 81 = false := by kernel_rfl
@[simp] theorem T_bt81 : byteT Tryd.prog 81 = false := by kernel_rfl
@[simp] theorem T_by81 : byT Tryd.prog 81 = 8 := by kernel_rfl
@[simp] theorem T_z81 : zT Tryd.prog 81 = some [.int .u64 0] := by kernel_rfl
@[simp] theorem T_sz82 : szT Tryd.prog 82 = 1 := by kernel_rfl
@[simp] theorem T_ag82 : aggT Tryd.prog 82 = some false := by kernel_rfl
@[simp] theorem T_sz83 : szT Tryd.prog 83 = 1 := by kernel_rfl
@[simp] theorem T_ag83 : aggT Tryd.prog 83 = some false := by kernel_rfl
@[simp] theorem T_sz84 : szT Tryd.prog 84 = 1 := by kernel_rfl
@[simp] theorem T_ag84 : aggT Tryd.prog 84 = some false := by kernel_rfl
@[simp] theorem T_sz85 : szT Tryd.prog 85 = 1 := by kernel_rfl
@[simp] theorem T_ag85 : aggT Tryd.prog 85 = some false := by kernel_rfl
@[simp] theorem T_sz86 : szT Tryd.prog 86 = 1 := by kernel_rfl
@[simp] theorem T_ag86 : aggT Tryd.prog 86 = some false := by kernel_rfl
@[simp] theorem T_sz87 : szT Tryd.prog 87 = 1 := by kernel_rfl
@[simp] theorem T_ag87 : aggT Tryd.prog 87 = some false := by kernel_rfl
@[simp] theorem T_sz88 : szT Tryd.prog 88 = 1 := by kernel_rfl
@[simp] theorem T_ag88 : aggT Tryd.prog 88 = some false := by kernel_rfl
@[simp] theorem T_sz89 : szT Tryd.prog 89 = 1 := by kernel_rfl
@[simp] theorem T_ag89 : aggT Tryd.prog 89 = some false := by kernel_rfl
@[simp] theorem T_el89 : elT Tryd.prog 89 = none := by kernel_rfl
@[simp] theorem T_ar89 : arrT Tryd.prog 89 = none := by kernel_rfl
@[simp] theorem T_st89 : strT Tryd.prog 89 = false := by kernel_rfl
@[simp] theorem T_pt89 : ptrT Tryd.prog 89 = true := by kernel_rfl
@[simp] theorem T_by89 : byT Tryd.prog 89 = 8 := by kernel_rfl
@[simp] theorem T_z89 : zT Tryd.prog 89 = some [.nilptr] := by kernel_rfl
@[simp] theorem T_sz90 : szT Tryd.prog 90 = 1 := by kernel_rfl
@[simp] theorem T_ag90 : aggT Tryd.prog 90 = some false := by kernel_rfl
@[simp] theorem T_sz91 : szT Tryd.prog 91 = 24 := by kernel_rfl
@[simp] theorem T_ag91 : aggT Tryd.prog 91 = some true := by kernel_rfl
@[simp] theorem T_el91 : elT Tryd.prog 91 = none := by kernel_rfl
@[simp] theorem T_ar91 : arrT Tryd.prog 91 = some (24, 3) := by kernel_rfl
@[simp] theorem T_st91 : strT Tryd.prog 91 = false := by kernel_rfl
@[simp] theorem T_by91 : byT Tryd.prog 91 = 192 := by kernel_rfl
@[simp] theorem T_z91 : zT Tryd.prog 91 = some [.int .i64 0, .int .i64 0, .int .i64 0, .int .i64 0, .int .i64 0, .int .i64 0, .int .i64 0, .int .i64 0, .int .i64 0, .int .i64 0, .int .i64 0, .int .i64 0, .int .i64 0, .int .i64 0, .int .i64 0, .int .i64 0, .int .i64 0, .int .i64 0, .int .i64 0, .int .i64 0, .int .i64 0, .int .i64 0, .int .i64 0, .int .i64 0] := by kernel_rfl
@[simp] theorem T_sz92 : szT Tryd.prog 92 = 29 := by kernel_rfl
@[simp] theorem T_ag92 : aggT Tryd.prog 92 = some true := by kernel_rfl
@[simp] theorem T_el92 : elT Tryd.prog 92 = none := by kernel_rfl
@[simp] theorem T_ar92 : arrT Tryd.prog 92 = none := by kernel_rfl
@[simp] theorem T_by92 : byT Tryd.prog 92 = 264 := by kernel_rfl
@[simp] theorem T_f92_0 : fldT Tryd.prog 92 0 = some (0, 3) := by kernel_rfl
@[simp] theorem T_f92_1 : fldT Tryd.prog 92 1 = some (1, 3) := by kernel_rfl
@[simp] theorem T_f92_2 : fldT Tryd.prog 92 2 = some (2, 42) := by kernel_rfl
@[simp] theorem T_f92_3 : fldT Tryd.prog 92 3 = some (3, 25) := by kernel_rfl
@[simp] theorem T_f92_4 : fldT Tryd.prog 92 4 = some (4, 91) := by kernel_rfl
@[simp] theorem T_f92_5 : fldT Tryd.prog 92 5 = some (28, 4) := by kernel_rfl
@[simp] theorem T_if92 : infoAll Tryd.prog 92 = true := by kernel_rfl
@[simp] theorem T_z92 : zT Tryd.prog 92 = some [.int .i64 0, .int .i64 0, .slice 1 true [], .slice 2 true [], .int .i64 0, .int .i64 0, .int .i64 0, .int .i64 0, .int .i64 0, .int .i64 0, .int .i64 0, .int .i64 0, .int .i64 0, .int .i64 0, .int .i64 0, .int .i64 0, .int .i64 0, .int .i64 0, .int .i64 0, .int .i64 0, .int .i64 0, .int .i64 0, .int .i64 0, .int .i64 0, .int .i64 0, .int .i64 0, .int .i64 0, .int .i64 0, .bool false] := by kernel_rfl
@[simp] theorem T_sz93 : szT Tryd.prog 93 = 29 := by kernel_rfl
@[simp] theorem T_ag93 : aggT Tryd.prog 93 = some true := by kernel_rfl
@[simp] theorem T_el93 : elT Tryd.prog 93 = none := by kernel_rfl
@[simp] theorem T_ar93 : arrT Tryd.prog 93 = none := by kernel_rfl
@[simp] theorem T_by93 : byT Tryd.prog 93 = 264 := by kernel_rfl
@[simp] theorem T_f93_0 : fldT Tryd.prog 93 0 = some (0, 3) := by kernel_rfl
@[simp] theorem T_f93_1 : fldT Tryd.prog 93 1 = some (1, 3) := by kernel_rfl
@[simp] theorem T_f93_2 : fldT Tryd.prog 93 2 = some (2, 42) := by kernel_rfl
@[simp] theorem T_f93_3 : fldT Tryd.prog 93 3 = some (3, 25) := by kernel_rfl
@[simp] theorem T_f93_4 : fldT Tryd.prog 93 4 = some (4, 91) := by kernel_rfl
@[simp] theorem T_f93_5 : fldT Tryd.prog 93 5 = some (28, 4) := by kernel_rfl
@[simp] theorem T_if93 : infoAll Tryd.prog 93 = true := by kernel_rfl
@[simp] theorem T_z93 : zT Tryd.prog 93 = some [.int .i64 0, .int .i64 0, .slice 1 true [], .slice 2 true [], .int .i64 0, .int .i64 0, .int .i64 0, .int .i64 0, .int .i64 0, .int .i64 0, .int .i64 0, .int .i64 0, .int .i64 0, .int .i64 0, .int .i64 0, .int .i64 0, .int .i64 0, .int .i64 0, .int .i64 0, .int .i64 0, .int .i64 0, .int .i64 0, .int .i64 0, .int .i64 0, .int .i64 0, .int .i64 0, .int .i64 0, .int .i64 0, .bool false] := by kernel_rfl
@[simp] theorem T_sz94 : szT Tryd.prog 94 = 1 := by kernel_rfl
@[simp] theorem T_ag94 : aggT Tryd.prog 94 = some false := by kernel_rfl
@[simp] theorem T_sz95 : szT Tryd.prog 95 = 1 := by kernel_rfl
@[simp] theorem T_ag95 : aggT Tryd.prog 95 = some false := by kernel_rfl
@[simp] theorem T_sz96 : szT Tryd.prog 96 = 1 := by kernel_rfl
@[simp] theorem T_ag96 : aggT Tryd.prog 96 = some false := by kernel_rfl
@[simp] theorem T_sz97 : szT Tryd.prog 97 = 1 := by kernel_rfl
@[simp] theorem T_ag97 : aggT Tryd.prog 97 = some false := by kernel_rfl
@[simp] theorem T_sz98 : szT Tryd.prog 98 = 1 := by kernel_rfl
@[simp] theorem T_ag98 : aggT Tryd.prog 98 = some false := by kernel_rfl
@[simp] theorem T_sz99 : szT Tryd.prog 99 = 1 := by kernel_rfl
@[simp] theorem T_ag99 : aggT Tryd.prog 99 = some false := by kernel_rfl
@[simp] theorem T_sz100 : szT Tryd.prog 100 = 1 := by kernel_rfl
@[simp] theorem T_ag100 : aggT Tryd.prog 100 = some false := by kernel_rfl
@[simp] theorem T_sz101 : szT Tryd.prog 101 = 1 := by kernel_rfl
@[simp] theorem T_ag101 : aggT Tryd.prog 101 = some false := by kernel_rfl
@[simp] theorem T_sz102 : szT Tryd.prog 102 = 1 := by kernel_rfl
@[simp] theorem T_ag102 : aggT Tryd.prog 102 = some false := by kernel_rfl
@[simp] theorem T_sz104 : szT Tryd.prog 104 = 1 := by kernel_rfl
@[simp] theorem T_ag104 : aggT Tryd.prog 104 = some false := by kernel_rfl
@[simp] theorem T_sz105 : szT Tryd.prog 105 = 1 := by kernel_rfl
@[simp] theorem T_ag105 : aggT Tryd.prog 105 = some false := by kernel_rfl
@[simp] theorem T_sz106 : szT Tryd.prog 106 = 1 := by kernel_rfl
@[simp] theorem T_ag106 : aggT Tryd.prog 106 = some false := by kernel_rfl
@[simp] theorem T_sz107 : szT Tryd.prog 107 = 1 := by kernel_rfl
@[simp] theorem T_ag107 : aggT Tryd.prog 107 = some false := by kernel_rfl
@[simp] theorem T_el107 : elT Tryd.prog 107 = none := by kernel_rfl
@[simp] theorem T_ar107 : arrT Tryd.prog 107 = none := by kernel_rfl
@[simp] theorem T_in107 : intT Tryd.prog 107 = some .u32 := by kernel_rfl
@[simp] theorem T_bo107 : boolT Tryd.prog 107 = false := by kernel_rfl
@[simp] theorem T_bt107 : byteT Tryd.prog 107 = false := by kernel_rfl
@[simp] theorem T_by107 : byT Tryd.prog 107 = 4 := by kernel_rfl
@[simp] theorem T_z107 : zT Tryd.prog 107 = some [.int .u32 0] := by kernel_rfl
@[simp] theorem T_sz109 : szT Tryd.prog 109 = 1 := by kernel_rfl
@[simp] theorem T_ag109 : aggT Tryd.prog 109 = some false := by kernel_rfl
@[simp] theorem T_sz110 : szT Tryd.prog 110 = 1 := by kernel_rfl
@[simp] theorem T_ag110 : aggT Tryd.prog 110 = some false := by kernel_rfl
@[simp] theorem T_el110 : elT Tryd.prog 110 = none := by kernel_rfl
@[simp] theorem T_ar110 : arrT Tryd.prog 110 = none := by kernel_rfl
@[simp] theorem T_in110 : intT Tryd.prog 110 = some .u64 := by kernel_rfl
@[simp] theorem T_bo110 : boolT Tryd.prog 110 = false := by kernel_rfl
@[simp] theorem T_bt110 : byteT Tryd.prog 110 = false := by kernel_rfl
@[simp] theorem T_by110 : byT Tryd.prog 110 = 8 := by kernel_rfl
@[simp] theorem T_z110 : zT Tryd.prog 110 = some [.int .u64 0] := by kernel_rfl
@[simp] theorem T_sz112 : szT Tryd.prog 112 = 1 := by kernel_rfl
@[simp] theorem T_ag112 : aggT Tryd.prog 112 = some false := by kernel_rfl
@[simp] theorem T_sz113 : szT Tryd.prog 113 = 1 := by kernel_rfl
@[simp] theorem T_ag113 : aggT Tryd.prog 113 = some false := by kernel_rfl
@[simp] theorem T_sz114 : szT Tryd.prog 114 = 3 := by kernel_rfl
@[simp] theorem T_ag114 : aggT Tryd.prog 114 = some true := by kernel_rfl
@[simp] theorem T_el114 : elT Tryd.prog 114 = none := by kernel_rfl
@[simp] theorem T_ar114 : arrT Tryd.prog 114 = none := by kernel_rfl
@[simp] theorem T_by114 : byT Tryd.prog 114 = 24 := by kernel_rfl
@[simp] theorem T_f114_0 : fldT Tryd.prog 114 0 = some (0, 4) := by kernel_rfl
@[simp] theorem T_f114_1 : fldT Tryd.prog 114 1 = some (1, 110) := by kernel_rfl
@[simp] theorem T_f114_2 : fldT Tryd.prog 114 2 = some (2, 110) := by kernel_rfl
@[simp] theorem T_if114 : infoAll Tryd.prog 114 = true := by kernel_rfl
@[simp] theorem T_z114 : zT Tryd.prog 114 = some [.bool false, .int .u64 0, .int .u64 0] := by kernel_rfl
@[simp] theorem T_sz115 : szT Tryd.prog 115 = 3 := by kernel_rfl
@[simp] theorem T_ag115 : aggT Tryd.prog 115 = some true := by kernel_rfl
@[simp] theorem T_el115 : elT Tryd.prog 115 = none := by kernel_rfl
@[simp] theorem T_ar115 : arrT Tryd.prog 115 = none := by kernel_rfl
@[simp] theorem T_by115 : byT Tryd.prog 115 = 24 := by kernel_rfl
@[simp] theorem T_f115_0 : fldT Tryd.prog 115 0 = some (0, 4) := by kernel_rfl
@[simp] theorem T_f115_1 : fldT Tryd.prog 115 1 = some (1, 110) := by kernel_rfl
@[simp] theorem T_f115_2 : fldT Tryd.prog 115 2 = some (2, 110) := by kernel_rfl
@[simp] theorem T_fl115 : flatT Tryd.prog 115 = some [.b, .i, .i] := by kernel_rfl
@[simp] theorem T_if115 : infoAll Tryd.prog 115 = true := by kernel_rfl
@[simp] theorem T_z115 : zT Tryd.prog 115 = some [.bool false, .int .u64 0, .int .u64 0] := by kernel_rfl
@[simp] theorem T_sz116 : szT Tryd.prog 116 = 1 := by kernel_rfl
@[simp] theorem T_ag116 : aggT Tryd.prog 116 = some false := by kernel_rfl
@[simp] theorem T_sz117 : szT Tryd.prog 117 = 1 := by kernel_rfl
@[simp] theorem T_ag117 : aggT Tryd.prog 117 = some false := by kernel_rfl
@[simp] theorem T_sz118 : szT Tryd.prog 118 = 1 := by kernel_rfl
@[simp] theorem T_ag118 : aggT Tryd.prog 118 = some false := by kernel_rfl
@[simp] theorem T_sz119 : szT Tryd.prog 119 = 1 := by kernel_rfl
@[simp] theorem T_ag119 : aggT Tryd.prog 119 = some false := by kernel_rfl
@[simp] theorem T_sz120 : szT Tryd.prog 120 = 1 := by kernel_rfl
@[simp] theorem T_ag120 : aggT Tryd.prog 120 = some false := by kernel_rfl
@[simp] theorem T_sz121 : szT Tryd.prog 121 = 1 := by kernel_rfl
@[simp] theorem T_ag121 : aggT Tryd.prog 121 = some false := by kernel_rfl
@[simp] theorem T_sz122 : szT Tryd.prog 122 = 1 := by kernel_rfl
@[simp] theorem T_ag122 : aggT Tryd.prog 122 = some false := by kernel_rfl
@[simp] theorem T_sz123 : szT Tryd.prog 123 = 1 := by kernel_rfl
@[simp] theorem T_ag123 : aggT Tryd.prog 123 = some false := by kernel_rfl
@[simp] theorem T_sz126 : szT Tryd.prog 126 = 1 := by kernel_rfl
@[simp] theorem T_ag126 : aggT Tryd.prog 126 = some false := by kernel_rfl
@[simp] theorem T_sz127 : szT Tryd.prog 127 = 1 := by kernel_rfl
@[simp] theorem T_ag127 : aggT Tryd.prog 127 = some false := by kernel_rfl
@[simp] theorem T_el127 : elT Tryd.prog 127 = none := by kernel_rfl
@[simp] theorem T_ar127 : arrT Tryd.prog 127 = none := by kernel_rfl
@[simp] theorem T_st127 : strT Tryd.prog 127 = false := by kernel_rfl
@[simp] theorem T_pt127 : ptrT Tryd.prog 127 = true := by kernel_rfl
@[simp] theorem T_by127 : byT Tryd.prog 127 = 8 := by kernel_rfl
@[simp] theorem T_z127 : zT Tryd.prog 127 = some [.nilptr] := by kernel_rfl
@[simp] theorem T_sz128 : szT Tryd.prog 128 = 1 := by kernel_rfl
@[simp] theorem T_ag128 : aggT Tryd.prog 128 = some false := by kernel_rfl
@[simp] theorem T_sz129 : szT Tryd.prog 129 = 4 := by kernel_rfl
@[simp] theorem T_ag129 : aggT Tryd.prog 129 = some true := by kernel_rfl
@[simp] theorem T_el129 : elT Tryd.prog 129 = none := by kernel_rfl
@[simp] theorem T_ar129 : arrT Tryd.prog 129 = none := by kernel_rfl
@[simp] theorem T_by129 : byT Tryd.prog 129 = 40 := by kernel_rfl
@[simp] theorem T_f129_0 : fldT Tryd.prog 129 0 = some (0, 17) := by kernel_rfl
@[simp] theorem T_f129_1 : fldT Tryd.prog 129 1 = some (1, 17) := by kernel_rfl
@[simp] theorem T_f129_2 : fldT Tryd.prog 129 2 = some (2, 17) := by kernel_rfl
@[simp] theorem T_f129_3 : fldT Tryd.prog 129 3 = some (3, 9) := by kernel_rfl
@[simp] theorem T_if129 : infoAll Tryd.prog 129 = true := by kernel_rfl
@[simp] theorem T_z129 : zT Tryd.prog 129 = some [.nilptr, .nilptr, .nilptr, .str ByteArray.empty] := by kernel_rfl
@[simp] theorem T_sz130 : szT Tryd.prog 130 = 4 := by kernel_rfl
@[simp] theorem T_ag130 : aggT Tryd.prog 130 = some true := by kernel_rfl
@[simp] theorem T_el130 : elT Tryd.prog 130 = none := by kernel_rfl
@[simp] theorem T_ar130 : arrT Tryd.prog 130 = none := by kernel_rfl
@[simp] theorem T_by130 : byT Tryd.prog 130 = 40 := by kernel_rfl
@[simp] theorem T_f130_0 : fldT Tryd.prog 130 0 = some (0, 17) := by kernel_rfl
@[simp] theorem T_f130_1 : fldT Tryd.prog 130 1 = some (1, 17) := by kernel_rfl
@[simp] theorem T_f130_2 : fldT Tryd.prog 130 2 = some (2, 17) := by kernel_rfl
@[simp] theorem T_f130_3 : fldT Tryd.prog 130 3 = some (3, 9) := by kernel_rfl
@[simp] theorem T_if130 : infoAll Tryd.prog 130 = true := by kernel_rfl
@[simp] theorem T_z130 : zT Tryd.prog 130 = some [.nilptr, .nilptr, .nilptr, .str ByteArray.empty] := by kernel_rfl
@[simp] theorem T_sz131 : szT Tryd.prog 131 = 0 := by kernel_rfl
@[simp] theorem T_ag131 : aggT Tryd.prog 131 = some true := by kernel_rfl
@[simp] theorem T_el131 : elT Tryd.prog 131 = none := by kernel_rfl
@[simp] theorem T_ar131 : arrT Tryd.prog 131 = some (0, 16) := by kernel_rfl
@[simp] theorem T_st131 : strT Tryd.prog 131 = false := by kernel_rfl
@[simp] theorem T_by131 : byT Tryd.prog 131 = 0 := by kernel_rfl
@[simp] theorem T_sz132 : szT Tryd.prog 132 = 0 := by kernel_rfl
@[simp] theorem T_ag132 : aggT Tryd.prog 132 = some true := by kernel_rfl
@[simp] theorem T_el132 : elT Tryd.prog 132 = none := by kernel_rfl
@[simp] theorem T_ar132 : arrT Tryd.prog 132 = none := by kernel_rfl
@[simp] theorem T_by132 : byT Tryd.prog 132 = 0 := by kernel_rfl
@[simp] theorem T_f132_0 : fldT Tryd.prog 132 0 = some (0, 131) := by kernel_rfl
@[simp] theorem T_if132 : infoAll Tryd.prog 132 = true := by kernel_rfl
@[simp] theorem T_sz133 : szT Tryd.prog 133 = 0 := by kernel_rfl
@[simp] theorem T_ag133 : aggT Tryd.prog 133 = some true := by kernel_rfl
@[simp] theorem T_el133 : elT Tryd.prog 133 = none := by kernel_rfl
@[simp] theorem T_ar133 : arrT Tryd.prog 133 = none := by kernel_rfl
@[simp] theorem T_by133 : byT Tryd.prog 133 = 0 := by kernel_rfl
@[simp] theorem T_f133_0 : fldT Tryd.prog 133 0 = some (0, 131) := by kernel_rfl
@[simp] theorem T_if133 : infoAll Tryd.prog 133 = true := by kernel_rfl
@[simp] theorem T_sz134 : szT Tryd.prog 134 = 1 := by kernel_rfl
@[simp] theorem T_ag134 : aggT Tryd.prog 134 = some false := by kernel_rfl
@[simp] theorem T_el134 : elT Tryd.prog 134 = none := by kernel_rfl
@[simp] theorem T_ar134 : arrT Tryd.prog 134 = none := by kernel_rfl
@[simp] theorem T_in134 : intT Tryd.prog 134 = some .u8 := by kernel_rfl
@[simp] theorem T_bo134 : boolT Tryd.prog 134 = false := by kernel_rfl
@[simp] theorem T_bt134 : byteT Tryd.prog 134 = true := by kernel_rfl
@[simp] theorem T_by134 : byT Tryd.prog 134 = 1 := by kernel_rfl
@[simp] theorem T_z134 : zT Tryd.prog 134 = some [.int .u8 0] := by kernel_rfl
@[simp] theorem T_sz135 : szT Tryd.prog 135 = 1 := by kernel_rfl
@[simp] theorem T_ag135 : aggT Tryd.prog 135 = some false := by kernel_rfl
@[simp] theorem T_el135 : elT Tryd.prog 135 = none := by kernel_rfl
@[simp] theorem T_ar135 : arrT Tryd.prog 135 = none := by kernel_rfl
@[simp] theorem T_in135 : intT Tryd.prog 135 = some .u8 := by kernel_rfl
@[simp] theorem T_bo135 : boolT Tryd.prog 135 = false := by kernel_rfl
@[simp] theorem T_bt135 : byteT Tryd.prog 135 = true := by kernel_rfl
@[simp] theorem T_by135 : byT Tryd.prog 135 = 1 := by kernel_rfl
@[simp] theorem T_z135 : zT Tryd.prog 135 = some [.int .u8 0] := by kernel_rfl
@[simp] theorem T_sz136 : szT Tryd.prog 136 = 1 := by kernel_rfl
@[simp] theorem T_ag136 : aggT Tryd.prog 136 = some false := by kernel_rfl
@[simp] theorem T_sz137 : szT Tryd.prog 137 = 1 := by kernel_rfl
@[simp] theorem T_ag137 : aggT Tryd.prog 137 = some false := by kernel_rfl
@[simp] theorem T_el137 : elT Tryd.prog 137 = none := by kernel_rfl
@[simp] theorem T_ar137 : arrT Tryd.prog 137 = none := by kernel_rfl
@[simp] theorem T_st137 : strT Tryd.prog 137 = false := by kernel_rfl
@[simp] theorem T_pt137 : ptrT Tryd.prog 137 = true := by kernel_rfl
@[simp] theorem T_by137 : byT Tryd.prog 137 = 8 := by kernel_rfl
@[simp] theorem T_z137 : zT Tryd.prog 137 = some [.nilptr] := by kernel_rfl
@[simp] theorem T_sz138 : szT Tryd.prog 138 = 1 := by kernel_rfl
@[simp] theorem T_ag138 : aggT Tryd.prog 138 = some false := by kernel_rfl
@[simp] theorem T_el138 : elT Tryd.prog 138 = none := by kernel_rfl
@[simp] theorem T_ar138 : arrT Tryd.prog 138 = none := by kernel_rfl
@[simp] theorem T_in138 : intT Tryd.prog 138 = some .i32 := by kernel_rfl
@[simp] theorem T_bo138 : boolT Tryd.prog 138 = false := by kernel_rfl
@[simp] theorem T_bt138 : byteT Tryd.prog 138 = false := by kernel_rfl
@[simp] theorem T_by138 : byT Tryd.prog 138 = 4 := by kernel_rfl
@[simp] theorem T_z138 : zT Tryd.prog 138 = some [.int .i32 0] := by kernel_rfl
@[simp] theorem T_sz139 : szT Tryd.prog 139 = 1 := by kernel_rfl
@[simp] theorem T_ag139 : aggT Tryd.prog 139 = some false := by kernel_rfl
@[simp] theorem T_el139 : elT Tryd.prog 139 = none := by kernel_rfl
@[simp] theorem T_ar139 : arrT Tryd.prog 139 = none := by kernel_rfl
@[simp] theorem T_in139 : intT Tryd.prog 139 = some .i32 := by kernel_rfl
@[simp] theorem T_bo139 : boolT Tryd.prog 139 = false := by kernel_rfl
@[simp] theorem T_bt139 : byteT Tryd.prog 139 = false := by kernel_rfl
@[simp] theorem T_by139 : byT Tryd.prog 139 = 4 := by kernel_rfl
@[simp] theorem T_z139 : zT Tryd.prog 139 = some [.int .i32 0] := by kernel_rfl
@[simp] theorem T_sz140 : szT Tryd.prog 140 = 11 := by kernel_rfl
@[simp] theorem T_ag140 : aggT Tryd.prog 140 = some true := by kernel_rfl
@[simp] theorem T_el140 : elT Tryd.prog 140 = none := by kernel_rfl
@[simp] theorem T_ar140 : arrT Tryd.prog 140 = none := by kernel_rfl
@[simp] theorem T_by140 : byT Tryd.prog 140 = 48 := by kernel_rfl
@[simp] theorem T_f140_0 : fldT Tryd.prog 140 0 = some (0, 12) := by kernel_rfl
@[simp] theorem T_f140_1 : fldT Tryd.prog 140 1 = some (1, 12) := by kernel_rfl
@[simp] theorem T_f140_2 : fldT Tryd.prog 140 2 = some (2, 107) := by kernel_rfl
@[simp] theorem T_f140_3 : fldT Tryd.prog 140 3 = some (3, 134) := by kernel_rfl
@[simp] theorem T_f140_4 : fldT Tryd.prog 140 4 = some (4, 5) := by kernel_rfl
@[simp] theorem T_f140_5 : fldT Tryd.prog 140 5 = some (5, 5) := by kernel_rfl
@[simp] theorem T_f140_6 : fldT Tryd.prog 140 6 = some (6, 135) := by kernel_rfl
@[simp] theorem T_f140_7 : fldT Tryd.prog 140 7 = some (7, 136) := by kernel_rfl
@[simp] theorem T_f140_8 : fldT Tryd.prog 140 8 = some (8, 137) := by kernel_rfl
@[simp] theorem T_f140_9 : fldT Tryd.prog 140 9 = some (9, 138) := by kernel_rfl
@[simp] theorem T_f140_10 : fldT Tryd.prog 140 10 = some (10, 139) := by kernel_rfl
@[simp] theorem T_if140 : infoAll Tryd.prog 140 = true := by kernel_rfl
@[simp] theorem T_sz141 : szT Tryd.prog 141 = 11 := by kernel_rfl
@[simp] theorem T_ag141 : aggT Tryd.prog 141 = some true := by kernel_rfl
@[simp] theorem T_el141 : elT Tryd.prog 141 = none := by kernel_rfl
@[simp] theorem T_ar141 : arrT Tryd.prog 141 = none := by kernel_rfl
@[simp] theorem T_by141 : byT Tryd.prog 141 = 48 := by kernel_rfl
@[simp] theorem T_f141_0 : fldT Tryd.prog 141 0 = some (0, 12) := by kernel_rfl
@[simp] theorem T_f141_1 : fldT Tryd.prog 141 1 = some (1, 12) := by kernel_rfl
@[simp] theorem T_f141_2 : fldT Tryd.prog 141 2 = some (2, 107) := by kernel_rfl
@[simp] theorem T_f141_3 : fldT Tryd.prog 141 3 = some (3, 134) := by kernel_rfl
@[simp] theorem T_f141_4 : fldT Tryd.prog 141 4 = some (4, 5) := by kernel_rfl
@[simp] theorem T_f141_5 : fldT Tryd.prog 141 5 = some (5, 5) := by kernel_rfl
@[simp] theorem T_f141_6 : fldT Tryd.prog 141 6 = some (6, 135) := by kernel_rfl
@[simp] theorem T_f141_7 : fldT Tryd.prog 141 7 = some (7, 136) := by kernel_rfl
@[simp] theorem T_f141_8 : fldT Tryd.prog 141 8 = some (8, 137) := by kernel_rfl
@[simp] theorem T_f141_9 : fldT Tryd.prog 141 9 = some (9, 138) := by kernel_rfl
@[simp] theorem T_f141_10 : fldT Tryd.prog 141 10 = some (10, 139) := by kernel_rfl
@[simp] theorem T_if141 : infoAll Tryd.prog 141 = true := by kernel_rfl
@[simp] theorem T_sz142 : szT Tryd.prog 142 = 1 := by kernel_rfl
@[simp] theorem T_ag142 : aggT Tryd.prog 142 = some true := by kernel_rfl
@[simp] theorem T_el142 : elT Tryd.prog 142 = none := by kernel_rfl
@[simp] theorem T_ar142 : arrT Tryd.prog 142 = none := by kernel_rfl
@[simp] theorem T_by142 : byT Tryd.prog 142 = 16 := by kernel_rfl
@[simp] theorem T_f142_0 : fldT Tryd.prog 142 0 = some (0, 9) := by kernel_rfl
@[simp] theorem T_if142 : infoAll Tryd.prog 142 = true := by kernel_rfl
@[simp] theorem T_z142 : zT Tryd.prog 142 = some [.str ByteArray.empty] := by kernel_rfl
@[simp] theorem T_sz143 : szT Tryd.prog 143 = 1 := by kernel_rfl
@[simp] theorem T_ag143 : aggT Tryd.prog 143 = some true := by kernel_rfl
@[simp] theorem T_el143 : elT Tryd.prog 143 = none := by kernel_rfl
@[simp] theorem T_ar143 : arrT Tryd.prog 143 = none := by kernel_rfl
@[simp] theorem T_by143 : byT Tryd.prog 143 = 16 := by kernel_rfl
@[simp] theorem T_f143_0 : fldT Tryd.prog 143 0 = some (0, 9) := by kernel_rfl
@[simp] theorem T_if143 : infoAll Tryd.prog 143 = true := by kernel_rfl
@[simp] theorem T_z143 : zT Tryd.prog 143 = some [.str ByteArray.empty] := by kernel_rfl

theorem mixed : Tryd.prog.follows .mixedOrders = true := by kernel_rfl

end Go.Proofs.YtfoipbjhaiimlaaDoor
