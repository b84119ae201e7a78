/-
  What the operations ask of the types of this program. Printed by wip/types.py.
-/
import Derived.Test.YtifbaegnkodneaaDoorAmE
import Derived.Test.YtifbaegnkodneaaDoorChecked
namespace Go.Proofs.YtifbaegnkodneaaDoor
open Go.RowKit
set_option maxRecDepth 100000

@[simp] theorem T_sz1 : szT Tryd.prog 1 = 1 := by kernel_rfl
@[simp] theorem T_ag1 : aggT Tryd.prog 1 = some false := by kernel_rfl
@[simp] theorem T_sz2 : szT Tryd.prog 2 = 1 := by kernel_rfl
@[simp] theorem T_ag2 : aggT Tryd.prog 2 = some false := by kernel_rfl
@[simp] theorem T_el2 : elT Tryd.prog 2 = none := by kernel_rfl
@[simp] theorem T_ar2 : arrT Tryd.prog 2 = none := by kernel_rfl
@[simp] theorem T_in2 : intT Tryd.prog 2 = some .i64 := by kernel_rfl
@[simp] theorem T_bo2 : boolT Tryd.prog 2 = false := by kernel_rfl
@[simp] theorem T_bt2 : byteT Tryd.prog 2 = false := by kernel_rfl
@[simp] theorem T_by2 : byT Tryd.prog 2 = 8 := by kernel_rfl
@[simp] theorem T_z2 : zT Tryd.prog 2 = some [.int .i64 0] := by kernel_rfl
@[simp] theorem T_sz3 : szT Tryd.prog 3 = 1 := by kernel_rfl
@[simp] theorem T_ag3 : aggT Tryd.prog 3 = some false := by kernel_rfl
@[simp] theorem T_el3 : elT Tryd.prog 3 = none := by kernel_rfl
@[simp] theorem T_ar3 : arrT Tryd.prog 3 = none := by kernel_rfl
@[simp] theorem T_in3 : intT Tryd.prog 3 = some .i64 := by kernel_rfl
@[simp] theorem T_bo3 : boolT Tryd.prog 3 = false := by kernel_rfl
@[simp] theorem T_bt3 : byteT Tryd.prog 3 = false := by kernel_rfl
@[simp] theorem T_by3 : byT Tryd.prog 3 = 8 := by kernel_rfl
@[simp] theorem T_z3 : zT Tryd.prog 3 = some [.int .i64 0] := by kernel_rfl
@[simp] theorem T_sz4 : szT Tryd.prog 4 = 1 := by kernel_rfl
@[simp] theorem T_ag4 : aggT Tryd.prog 4 = some false := by kernel_rfl
@[simp] theorem T_in4 : intT Tryd.prog 4 = none := by kernel_rfl
@[simp] theorem T_bo4 : boolT Tryd.prog 4 = true := by kernel_rfl
@[simp] theorem T_bt4 : byteT Tryd.prog 4 = false := by kernel_rfl
@[simp] theorem T_by4 : byT Tryd.prog 4 = 1 := by kernel_rfl
@[simp] theorem T_z4 : zT Tryd.prog 4 = some [.bool false] := by kernel_rfl
@[simp] theorem T_sz5 : szT Tryd.prog 5 = 1 := by kernel_rfl
@[simp] theorem T_ag5 : aggT Tryd.prog 5 = some false := by kernel_rfl
@[simp] theorem T_el5 : elT Tryd.prog 5 = none := by kernel_rfl
@[simp] theorem T_ar5 : arrT Tryd.prog 5 = none := by kernel_rfl
@[simp] theorem T_in5 : intT Tryd.prog 5 = some .u8 := by kernel_rfl
@[simp] theorem T_bo5 : boolT Tryd.prog 5 = false := by kernel_rfl
@[simp] theorem T_bt5 : byteT Tryd.prog 5 = true := by kernel_rfl
@[simp] theorem T_by5 : byT Tryd.prog 5 = 1 := by kernel_rfl
@[simp] theorem T_z5 : zT Tryd.prog 5 = some [.int .u8 0] := by kernel_rfl
@[simp] theorem T_sz6 : szT Tryd.prog 6 = 1 := by kernel_rfl
@[simp] theorem T_ag6 : aggT Tryd.prog 6 = some false := by kernel_rfl
@[simp] theorem T_el6 : elT Tryd.prog 6 = none := by kernel_rfl
@[simp] theorem T_ar6 : arrT Tryd.prog 6 = none := by kernel_rfl
@[simp] theorem T_in6 : intT Tryd.prog 6 = some .u8 := by kernel_rfl
@[simp] theorem T_bo6 : boolT Tryd.prog 6 = false := by kernel_rfl
@[simp] theorem T_bt6 : byteT Tryd.prog 6 = true := by kernel_rfl
@[simp] theorem T_by6 : byT Tryd.prog 6 = 1 := by kernel_rfl
@[simp] theorem T_z6 : zT Tryd.prog 6 = some [.int .u8 0] := by kernel_rfl
@[simp] theorem T_sz7 : szT Tryd.prog 7 = 4 := by kernel_rfl
@[simp] theorem T_ag7 : aggT Tryd.prog 7 = some true := by kernel_rfl
@[simp] theorem T_el7 : elT Tryd.prog 7 = none := by kernel_rfl
@[simp] theorem T_ar7 : arrT Tryd.prog 7 = none := by kernel_rfl
@[simp] theorem T_by7 : byT Tryd.prog 7 = 24 := by kernel_rfl
@[simp] theorem T_f7_0 : fldT Tryd.prog 7 0 = some (0, 2) := by kernel_rfl
@[simp] theorem T_f7_1 : fldT Tryd.prog 7 1 = some (1, 3) := by kernel_rfl
@[simp] theorem T_f7_2 : fldT Tryd.prog 7 2 = some (2, 4) := by kernel_rfl
@[simp] theorem T_f7_3 : fldT Tryd.prog 7 3 = some (3, 6) := by kernel_rfl
@[simp] theorem T_if7 : infoAll Tryd.prog 7 = true := by kernel_rfl
@[simp] theorem T_z7 : zT Tryd.prog 7 = some [.int .i64 0, .int .i64 0, .bool false, .int .u8 0] := by kernel_rfl
@[simp] theorem T_sz8 : szT Tryd.prog 8 = 4 := by kernel_rfl
@[simp] theorem T_ag8 : aggT Tryd.prog 8 = some true := by kernel_rfl
@[simp] theorem T_el8 : elT Tryd.prog 8 = none := by kernel_rfl
@[simp] theorem T_ar8 : arrT Tryd.prog 8 = none := by kernel_rfl
@[simp] theorem T_by8 : byT Tryd.prog 8 = 24 := by kernel_rfl
@[simp] theorem T_f8_0 : fldT Tryd.prog 8 0 = some (0, 2) := by kernel_rfl
@[simp] theorem T_f8_1 : fldT Tryd.prog 8 1 = some (1, 3) := by kernel_rfl
@[simp] theorem T_f8_2 : fldT Tryd.prog 8 2 = some (2, 4) := by kernel_rfl
@[simp] theorem T_f8_3 : fldT Tryd.prog 8 3 = some (3, 6) := by kernel_rfl
@[simp] theorem T_if8 : infoAll Tryd.prog 8 = true := by kernel_rfl
@[simp] theorem T_z8 : zT Tryd.prog 8 = some [.int .i64 0, .int .i64 0, .bool false, .int .u8 0] := by kernel_rfl
@[simp] theorem T_sz9 : szT Tryd.prog 9 = 1 := by kernel_rfl
@[simp] theorem T_ag9 : aggT Tryd.prog 9 = some false := by kernel_rfl
@[simp] theorem T_el9 : elT Tryd.prog 9 = none := by kernel_rfl
@[simp] theorem T_ar9 : arrT Tryd.prog 9 = none := by kernel_rfl
@[simp] theorem T_st9 : strT Tryd.prog 9 = true := by kernel_rfl
@[simp] theorem T_in9 : intT Tryd.prog 9 = none := by kernel_rfl
@[simp] theorem T_bo9 : boolT Tryd.prog 9 = false := by kernel_rfl
@[simp] theorem T_bt9 : byteT Tryd.prog 9 = false := by kernel_rfl
@[simp] theorem T_by9 : byT Tryd.prog 9 = 16 := by kernel_rfl
@[simp] theorem T_z9 : zT Tryd.prog 9 = some [.str ByteArray.empty] := by kernel_rfl
@[simp] theorem T_sz10 : szT Tryd.prog 10 = 1 := by kernel_rfl
@[simp] theorem T_ag10 : aggT Tryd.prog 10 = some false := by kernel_rfl
@[simp] theorem T_el10 : elT Tryd.prog 10 = none := by kernel_rfl
@[simp] theorem T_ar10 : arrT Tryd.prog 10 = none := by kernel_rfl
@[simp] theorem T_st10 : strT Tryd.prog 10 = true := by kernel_rfl
@[simp] theorem T_in10 : intT Tryd.prog 10 = none := by kernel_rfl
@[simp] theorem T_bo10 : boolT Tryd.prog 10 = false := by kernel_rfl
@[simp] theorem T_bt10 : byteT Tryd.prog 10 = false := by kernel_rfl
@[simp] theorem T_by10 : byT Tryd.prog 10 = 16 := by kernel_rfl
@[simp] theorem T_z10 : zT Tryd.prog 10 = some [.str ByteArray.empty] := by kernel_rfl
@[simp] theorem T_sz11 : szT Tryd.prog 11 = 1 := by kernel_rfl
@[simp] theorem T_ag11 : aggT Tryd.prog 11 = some false := by kernel_rfl
@[simp] theorem T_el11 : elT Tryd.prog 11 = none := by kernel_rfl
@[simp] theorem T_ar11 : arrT Tryd.prog 11 = none := by kernel_rfl
@[simp] theorem T_st11 : strT Tryd.prog 11 = true := by kernel_rfl
@[simp] theorem T_in11 : intT Tryd.prog 11 = none := by kernel_rfl
@[simp] theorem T_bo11 : boolT Tryd.prog 11 = false := by kernel_rfl
@[simp] theorem T_bt11 : byteT Tryd.prog 11 = false := by kernel_rfl
@[simp] theorem T_by11 : byT Tryd.prog 11 = 16 := by kernel_rfl
@[simp] theorem T_z11 : zT Tryd.prog 11 = some [.str ByteArray.empty] := by kernel_rfl
@[simp] theorem T_sz12 : szT Tryd.prog 12 = 1 := by kernel_rfl
@[simp] theorem T_ag12 : aggT Tryd.prog 12 = some false := by kernel_rfl
@[simp] theorem T_el12 : elT Tryd.prog 12 = none := by kernel_rfl
@[simp] theorem T_ar12 : arrT Tryd.prog 12 = none := by kernel_rfl
@[simp] theorem T_in12 : intT Tryd.prog 12 = some .u64 := by kernel_rfl
@[simp] theorem T_bo12 : boolT Tryd.prog 12 = false := by kernel_rfl
@[simp] theorem T_bt12 : byteT Tryd.prog 12 = false := by kernel_rfl
@[simp] theorem T_by12 : byT Tryd.prog 12 = 8 := by kernel_rfl
@[simp] theorem T_z12 : zT Tryd.prog 12 = some [.int .u64 0] := by kernel_rfl
@[simp] theorem T_sz13 : szT Tryd.prog 13 = 2 := by kernel_rfl
@[simp] theorem T_ag13 : aggT Tryd.prog 13 = some true := by kernel_rfl
@[simp] theorem T_el13 : elT Tryd.prog 13 = none := by kernel_rfl
@[simp] theorem T_ar13 : arrT Tryd.prog 13 = none := by kernel_rfl
@[simp] theorem T_by13 : byT Tryd.prog 13 = 24 := by kernel_rfl
@[simp] theorem T_f13_0 : fldT Tryd.prog 13 0 = some (0, 9) := by kernel_rfl
@[simp] theorem T_f13_1 : fldT Tryd.prog 13 1 = some (1, 12) := by kernel_rfl
@[simp] theorem T_if13 : infoAll Tryd.prog 13 = true := by kernel_rfl
@[simp] theorem T_z13 : zT Tryd.prog 13 = some [.str ByteArray.empty, .int .u64 0] := by kernel_rfl
@[simp] theorem T_sz14 : szT Tryd.prog 14 = 2 := by kernel_rfl
@[simp] theorem T_ag14 : aggT Tryd.prog 14 = some true := by kernel_rfl
@[simp] theorem T_el14 : elT Tryd.prog 14 = none := by kernel_rfl
@[simp] theorem T_ar14 : arrT Tryd.prog 14 = none := by kernel_rfl
@[simp] theorem T_by14 : byT Tryd.prog 14 = 24 := by kernel_rfl
@[simp] theorem T_f14_0 : fldT Tryd.prog 14 0 = some (0, 9) := by kernel_rfl
@[simp] theorem T_f14_1 : fldT Tryd.prog 14 1 = some (1, 12) := by kernel_rfl
@[simp] theorem T_if14 : infoAll Tryd.prog 14 = true := by kernel_rfl
@[simp] theorem T_z14 : zT Tryd.prog 14 = some [.str ByteArray.empty, .int .u64 0] := by kernel_rfl
@[simp] theorem T_sz15 : szT Tryd.prog 15 = 1 := by kernel_rfl
@[simp] theorem T_ag15 : aggT Tryd.prog 15 = some false := by kernel_rfl
@[simp] theorem T_el15 : elT Tryd.prog 15 = none := by kernel_rfl
@[simp] theorem T_ar15 : arrT Tryd.prog 15 = none := by kernel_rfl
@[simp] theorem T_st15 : strT Tryd.prog 15 = false := by kernel_rfl
@[simp] theorem T_pt15 : ptrT Tryd.prog 15 = true := by kernel_rfl
@[simp] theorem T_by15 : byT Tryd.prog 15 = 8 := by kernel_rfl
@[simp] theorem T_z15 : zT Tryd.prog 15 = some [.nilptr] := by kernel_rfl
@[simp] theorem T_sz16 : szT Tryd.prog 16 = 1 := by kernel_rfl
@[simp] theorem T_ag16 : aggT Tryd.prog 16 = some false := by kernel_rfl
@[simp] theorem T_el16 : elT Tryd.prog 16 = none := by kernel_rfl
@[simp] theorem T_ar16 : arrT Tryd.prog 16 = none := by kernel_rfl
@[simp] theorem T_st16 : strT Tryd.prog 16 = false := by kernel_rfl
@[simp] theorem T_pt16 : ptrT Tryd.prog 16 = true := by kernel_rfl
@[simp] theorem T_by16 : byT Tryd.prog 16 = 8 := by kernel_rfl
@[simp] theorem T_z16 : zT Tryd.prog 16 = some [.nilptr] := by kernel_rfl
@[simp] theorem T_sz17 : szT Tryd.prog 17 = 1 := by kernel_rfl
@[simp] theorem T_ag17 : aggT Tryd.prog 17 = some false := by kernel_rfl
@[simp] theorem T_el17 : elT Tryd.prog 17 = none := by kernel_rfl
@[simp] theorem T_ar17 : arrT Tryd.prog 17 = none := by kernel_rfl
@[simp] theorem T_st17 : strT Tryd.prog 17 = false := by kernel_rfl
@[simp] theorem T_pt17 : ptrT Tryd.prog 17 = true := by kernel_rfl
@[simp] theorem T_by17 : byT Tryd.prog 17 = 8 := by kernel_rfl
@[simp] theorem T_z17 : zT Tryd.prog 17 = some [.nilptr] := by kernel_rfl
@[simp] theorem T_sz18 : szT Tryd.prog 18 = 1 := by kernel_rfl
@[simp] theorem T_ag18 : aggT Tryd.prog 18 = some true := by kernel_rfl
@[simp] theorem T_el18 : elT Tryd.prog 18 = none := by kernel_rfl
@[simp] theorem T_ar18 : arrT Tryd.prog 18 = none := by kernel_rfl
@[simp] theorem T_by18 : byT Tryd.prog 18 = 8 := by kernel_rfl
@[simp] theorem T_f18_0 : fldT Tryd.prog 18 0 = some (0, 17) := by kernel_rfl
@[simp] theorem T_if18 : infoAll Tryd.prog 18 = true := by kernel_rfl
@[simp] theorem T_z18 : zT Tryd.prog 18 = some [.nilptr] := by kernel_rfl
@[simp] theorem T_sz19 : szT Tryd.prog 19 = 1 := by kernel_rfl
@[simp] theorem T_ag19 : aggT Tryd.prog 19 = some true := by kernel_rfl
@[simp] theorem T_el19 : elT Tryd.prog 19 = none := by kernel_rfl
@[simp] theorem T_ar19 : arrT Tryd.prog 19 = none := by kernel_rfl
@[simp] theorem T_by19 : byT Tryd.prog 19 = 8 := by kernel_rfl
@[simp] theorem T_f19_0 : fldT Tryd.prog 19 0 = some (0, 17) := by kernel_rfl
@[simp] theorem T_if19 : infoAll Tryd.prog 19 = true := by kernel_rfl
@[simp] theorem T_z19 : zT Tryd.prog 19 = some [.nilptr] := by kernel_rfl
@[simp] theorem T_sz21 : szT Tryd.prog 21 = 1 := by kernel_rfl
@[simp] theorem T_ag21 : aggT Tryd.prog 21 = some false := by kernel_rfl
@[simp] theorem T_el21 : elT Tryd.prog 21 = none := by kernel_rfl
@[simp] theorem T_ar21 : arrT Tryd.prog 21 = none := by kernel_rfl
@[simp] theorem T_in21 : intT Tryd.prog 21 = some .i32 := by kernel_rfl
@[simp] theorem T_bo21 : boolT Tryd.prog 21 = false := by kernel_rfl
@[simp] theorem T_bt21 : byteT Tryd.prog 21 = false := by kernel_rfl
@[simp] theorem T_by21 : byT Tryd.prog 21 = 4 := by kernel_rfl
@[simp] theorem T_z21 : zT Tryd.prog 21 = some [.int .i32 0] := by kernel_rfl
@[simp] theorem T_sz22 : szT Tryd.prog 22 = 1 := by kernel_rfl
@[simp] theorem T_ag22 : aggT Tryd.prog 22 = some false := by kernel_rfl
@[simp] theorem T_el22 : elT Tryd.prog 22 = some 23 := by kernel_rfl
@[simp] theorem T_ar22 : arrT Tryd.prog 22 = none := by kernel_rfl
@[simp] theorem T_st22 : strT Tryd.prog 22 = false := by kernel_rfl
@[simp] theorem T_by22 : byT Tryd.prog 22 = 24 := by kernel_rfl
@[simp] theorem T_z22 : zT Tryd.prog 22 = some [.slice 1 true []] := by kernel_rfl
@[simp] theorem T_sz23 : szT Tryd.prog 23 = 1 := by kernel_rfl
@[simp] theorem T_ag23 : aggT Tryd.prog 23 = some false := by kernel_rfl
@[simp] theorem T_el23 : elT Tryd.prog 23 = some 29 := by kernel_rfl
@[simp] theorem T_ar23 : arrT Tryd.prog 23 = none := by kernel_rfl
@[simp] theorem T_st23 : strT Tryd.prog 23 = false := by kernel_rfl
@[simp] theorem T_by23 : byT Tryd.prog 23 = 24 := by kernel_rfl
@[simp] theorem T_z23 : zT Tryd.prog 23 = some [.slice 2 true []] := by kernel_rfl
@[simp] theorem T_sz24 : szT Tryd.prog 24 = 3 := by kernel_rfl
@[simp] theorem T_ag24 : aggT Tryd.prog 24 = some true := by kernel_rfl
@[simp] theorem T_el24 : elT Tryd.prog 24 = none := by kernel_rfl
@[simp] theorem T_ar24 : arrT Tryd.prog 24 = none := by kernel_rfl
@[simp] theorem T_by24 : byT Tryd.prog 24 = 72 := by kernel_rfl
@[simp] theorem T_f24_0 : fldT Tryd.prog 24 0 = some (0, 22) := by kernel_rfl
@[simp] theorem T_f24_1 : fldT Tryd.prog 24 1 = some (1, 23) := by kernel_rfl
@[simp] theorem T_f24_2 : fldT Tryd.prog 24 2 = some (2, 23) := by kernel_rfl
@[simp] theorem T_if24 : infoAll Tryd.prog 24 = true := by kernel_rfl
@[simp] theorem T_z24 : zT Tryd.prog 24 = some [.slice 1 true [], .slice 2 true [], .slice 2 true []] := by kernel_rfl
@[simp] theorem T_sz25 : szT Tryd.prog 25 = 3 := by kernel_rfl
@[simp] theorem T_ag25 : aggT Tryd.prog 25 = some true := by kernel_rfl
@[simp] theorem T_el25 : elT Tryd.prog 25 = none := by kernel_rfl
@[simp] theorem T_ar25 : arrT Tryd.prog 25 = none := by kernel_rfl
@[simp] theorem T_by25 : byT Tryd.prog 25 = 72 := by kernel_rfl
@[simp] theorem T_f25_0 : fldT Tryd.prog 25 0 = some (0, 22) := by kernel_rfl
@[simp] theorem T_f25_1 : fldT Tryd.prog 25 1 = some (1, 23) := by kernel_rfl
@[simp] theorem T_f25_2 : fldT Tryd.prog 25 2 = some (2, 23) := by kernel_rfl
@[simp] theorem T_if25 : infoAll Tryd.prog 25 = true := by kernel_rfl
@[simp] theorem T_z25 : zT Tryd.prog 25 = some [.slice 1 true [], .slice 2 true [], .slice 2 true []] := by kernel_rfl
@[simp] theorem T_sz26 : szT Tryd.prog 26 = 1 := by kernel_rfl
@[simp] theorem T_ag26 : aggT Tryd.prog 26 = some false := by kernel_rfl
@[simp] theorem T_sz27 : szT Tryd.prog 27 = 1 := by kernel_rfl
@[simp] theorem T_ag27 : aggT Tryd.prog 27 = some false := by kernel_rfl
@[simp] theorem T_sz28 : szT Tryd.prog 28 = 2 := by kernel_rfl
@[simp] theorem T_ag28 : aggT Tryd.prog 28 = some true := by kernel_rfl
@[simp] theorem T_el28 : elT Tryd.prog 28 = none := by kernel_rfl
@[simp] theorem T_ar28 : arrT Tryd.prog 28 = none := by kernel_rfl
@[simp] theorem T_by28 : byT Tryd.prog 28 = 16 := by kernel_rfl
@[simp] theorem T_f28_0 : fldT Tryd.prog 28 0 = some (0, 3) := by kernel_rfl
@[simp] theorem T_f28_1 : fldT Tryd.prog 28 1 = some (1, 3) := by kernel_rfl
@[simp] theorem T_if28 : infoAll Tryd.prog 28 = true := by kernel_rfl
@[simp] theorem T_z28 : zT Tryd.prog 28 = some [.int .i64 0, .int .i64 0] := by kernel_rfl
@[simp] theorem T_sz29 : szT Tryd.prog 29 = 2 := by kernel_rfl
@[simp] theorem T_ag29 : aggT Tryd.prog 29 = some true := by kernel_rfl
@[simp] theorem T_el29 : elT Tryd.prog 29 = none := by kernel_rfl
@[simp] theorem T_ar29 : arrT Tryd.prog 29 = none := by kernel_rfl
@[simp] theorem T_by29 : byT Tryd.prog 29 = 16 := by kernel_rfl
@[simp] theorem T_f29_0 : fldT Tryd.prog 29 0 = some (0, 3) := by kernel_rfl
@[simp] theorem T_f29_1 : fldT Tryd.prog 29 1 = some (1, 3) := by kernel_rfl
@[simp] theorem T_fl29 : flatT Tryd.prog 29 = some [.i, .i] := by kernel_rfl
@[simp] theorem T_if29 : infoAll Tryd.prog 29 = true := by kernel_rfl
@[simp] theorem T_z29 : zT Tryd.prog 29 = some [.int .i64 0, .int .i64 0] := by kernel_rfl
@[simp] theorem T_sz31 : szT Tryd.prog 31 = 1 := by kernel_rfl
@[simp] theorem T_ag31 : aggT Tryd.prog 31 = some false := by kernel_rfl
@[simp] theorem T_sz32 : szT Tryd.prog 32 = 1 := by kernel_rfl
@[simp] theorem T_ag32 : aggT Tryd.prog 32 = some false := by kernel_rfl
@[simp] theorem T_el32 : elT Tryd.prog 32 = none := by kernel_rfl
@[simp] theorem T_ar32 : arrT Tryd.prog 32 = none := by kernel_rfl
@[simp] theorem T_in32 : intT Tryd.prog 32 = some .i64 := by kernel_rfl
@[simp] theorem T_bo32 : boolT Tryd.prog 32 = false := by kernel_rfl
@[simp] theorem T_bt32 : byteT Tryd.prog 32 = false := by kernel_rfl
@[simp] theorem T_by32 : byT Tryd.prog 32 = 8 := by kernel_rfl
@[simp] theorem T_z32 : zT Tryd.prog 32 = some [.int .i64 0] := by kernel_rfl
@[simp] theorem T_sz34 : szT Tryd.prog 34 = 1 := by kernel_rfl
@[simp] theorem T_ag34 : aggT Tryd.prog 34 = some false := by kernel_rfl
@[simp] theorem T_sz35 : szT Tryd.prog 35 = 1 := by kernel_rfl
@[simp] theorem T_ag35 : aggT Tryd.prog 35 = some false := by kernel_rfl
@[simp] theorem T_sz36 : szT Tryd.prog 36 = 1 := by kernel_rfl
@[simp] theorem T_ag36 : aggT Tryd.prog 36 = some false := by kernel_rfl
@[simp] theorem T_sz37 : szT Tryd.prog 37 = 1 := by kernel_rfl
@[simp] theorem T_ag37 : aggT Tryd.prog 37 = some false := by kernel_rfl
@[simp] theorem T_sz39 : szT Tryd.prog 39 = 1 := by kernel_rfl
@[simp] theorem T_ag39 : aggT Tryd.prog 39 = some false := by kernel_rfl
@[simp] theorem T_sz40 : szT Tryd.prog 40 = 1 := by kernel_rfl
@[simp] theorem T_ag40 : aggT Tryd.prog 40 = some false := by kernel_rfl
@[simp] theorem T_sz41 : szT Tryd.prog 41 = 1 := by kernel_rfl
@[simp] theorem T_ag41 : aggT Tryd.prog 41 = some false := by kernel_rfl
@[simp] theorem T_sz42 : szT Tryd.prog 42 = 1 := by kernel_rfl
@[simp] theorem T_ag42 : aggT Tryd.prog 42 = some false := by kernel_rfl
@[simp] theorem T_sz43 : szT Tryd.prog 43 = 1 := by kernel_rfl
@[simp] theorem T_ag43 : aggT Tryd.prog 43 = some false := by kernel_rfl
@[simp] theorem T_sz44 : szT Tryd.prog 44 = 1 := by kernel_rfl
@[simp] theorem T_ag44 : aggT Tryd.prog 44 = some false := by kernel_rfl
@[simp] theorem T_sz45 : szT Tryd.prog 45 = 1 := by kernel_rfl
@[simp] theorem T_ag45 : aggT Tryd.prog 45 = some false := by kernel_rfl
@[simp] theorem T_sz46 : szT Tryd.prog 46 = 1 := by kernel_rfl
@[simp] theorem T_ag46 : aggT Tryd.prog 46 = some false := by kernel_rfl
@[simp] theorem T_sz47 : szT Tryd.prog 47 = 1 := by kernel_rfl
@[simp] theorem T_ag47 : aggT Tryd.prog 47 = some false := by kernel_rfl
@[simp] theorem T_sz48 : szT Tryd.prog 48 = 1 := by kernel_rfl
@[simp] theorem T_ag48 : aggT Tryd.prog 48 = some false := by kernel_rfl
@[simp] theorem T_sz49 : szT Tryd.prog 49 = 1 := by kernel_rfl
@[simp] theorem T_ag49 : aggT Tryd.prog 49 = some false := by kernel_rfl
@[simp] theorem T_sz50 : szT Tryd.prog 50 = 1 := by kernel_rfl
@[simp] theorem T_ag50 : aggT Tryd.prog 50 = some false := by kernel_rfl
@[simp] theorem T_el50 : elT Tryd.prog 50 = none := by kernel_rfl
@[simp] theorem T_ar50 : arrT Tryd.prog 50 = none := by kernel_rfl
@[simp] theorem T_st50 : strT Tryd.prog 50 = false := by kernel_rfl
@[simp] theorem T_pt50 : ptrT Tryd.prog 50 = true := by kernel_rfl
@[simp] theorem T_by50 : byT Tryd.prog 50 = 8 := by kernel_rfl
@[simp] theorem T_z50 : zT Tryd.prog 50 = some [.nilptr] := by kernel_rfl
@[simp] theorem T_sz51 : szT Tryd.prog 51 = 1 := by kernel_rfl
@[simp] theorem T_ag51 : aggT Tryd.prog 51 = some false := by kernel_rfl
@[simp] theorem T_sz52 : szT Tryd.prog 52 = 24 := by kernel_rfl
@[simp] theorem T_ag52 : aggT Tryd.prog 52 = some true := by kernel_rfl
@[simp] theorem T_el52 : elT Tryd.prog 52 = none := by kernel_rfl
@[simp] theorem T_ar52 : arrT Tryd.prog 52 = some (24, 3) := by kernel_rfl
@[simp] theorem T_st52 : strT Tryd.prog 52 = false := by kernel_rfl
@[simp] theorem T_by52 : byT Tryd.prog 52 = 192 := by kernel_rfl
@[simp] theorem T_z52 : zT Tryd.prog 52 = some [.int .i64 0, .int .i64 0, .int .i64 0, .int .i64 0, .int .i64 0, .int .i64 0, .int .i64 0, .int .i64 0, .int .i64 0, .int .i64 0, .int .i64 0, .int .i64 0, .int .i64 0, .int .i64 0, .int .i64 0, .int .i64 0, .int .i64 0, .int .i64 0, .int .i64 0, .int .i64 0, .int .i64 0, .int .i64 0, .int .i64 0, .int .i64 0] := by kernel_rfl
@[simp] theorem T_sz53 : szT Tryd.prog 53 = 29 := by kernel_rfl
@[simp] theorem T_ag53 : aggT Tryd.prog 53 = some true := by kernel_rfl
@[simp] theorem T_el53 : elT Tryd.prog 53 = none := by kernel_rfl
@[simp] theorem T_ar53 : arrT Tryd.prog 53 = none := by kernel_rfl
@[simp] theorem T_by53 : byT Tryd.prog 53 = 264 := by kernel_rfl
@[simp] theorem T_f53_0 : fldT Tryd.prog 53 0 = some (0, 3) := by kernel_rfl
@[simp] theorem T_f53_1 : fldT Tryd.prog 53 1 = some (1, 3) := by kernel_rfl
@[simp] theorem T_f53_2 : fldT Tryd.prog 53 2 = some (2, 22) := by kernel_rfl
@[simp] theorem T_f53_3 : fldT Tryd.prog 53 3 = some (3, 23) := by kernel_rfl
@[simp] theorem T_f53_4 : fldT Tryd.prog 53 4 = some (4, 52) := by kernel_rfl
@[simp] theorem T_f53_5 : fldT Tryd.prog 53 5 = some (28, 4) := by kernel_rfl
@[simp] theorem T_if53 : infoAll Tryd.prog 53 = true := by kernel_rfl
@[simp] theorem T_z53 : zT Tryd.prog 53 = some [.int .i64 0, .int .i64 0, .slice 1 true [], .slice 2 true [], .int .i64 0, .int .i64 0, .int .i64 0, .int .i64 0, .int .i64 0, .int .i64 0, .int .i64 0, .int .i64 0, .int .i64 0, .int .i64 0, .int .i64 0, .int .i64 0, .int .i64 0, .int .i64 0, .int .i64 0, .int .i64 0, .int .i64 0, .int .i64 0, .int .i64 0, .int .i64 0, .int .i64 0, .int .i64 0, .int .i64 0, .int .i64 0, .bool false] := by kernel_rfl
@[simp] theorem T_sz54 : szT Tryd.prog 54 = 29 := by kernel_rfl
@[simp] theorem T_ag54 : aggT Tryd.prog 54 = some true := by kernel_rfl
@[simp] theorem T_el54 : elT Tryd.prog 54 = none := by kernel_rfl
@[simp] theorem T_ar54 : arrT Tryd.prog 54 = none := by kernel_rfl
@[simp] theorem T_by54 : byT Tryd.prog 54 = 264 := by kernel_rfl
@[simp] theorem T_f54_0 : fldT Tryd.prog 54 0 = some (0, 3) := by kernel_rfl
@[simp] theorem T_f54_1 : fldT Tryd.prog 54 1 = some (1, 3) := by kernel_rfl
@[simp] theorem T_f54_2 : fldT Tryd.prog 54 2 = some (2, 22) := by kernel_rfl
@[simp] theorem T_f54_3 : fldT Tryd.prog 54 3 = some (3, 23) := by kernel_rfl
@[simp] theorem T_f54_4 : fldT Tryd.prog 54 4 = some (4, 52) := by kernel_rfl
@[simp] theorem T_f54_5 : fldT Tryd.prog 54 5 = some (28, 4) := by kernel_rfl
@[simp] theorem T_if54 : infoAll Tryd.prog 54 = true := by kernel_rfl
@[simp] theorem T_z54 : zT Tryd.prog 54 = some [.int .i64 0, .int .i64 0, .slice 1 true [], .slice 2 true [], .int .i64 0, .int .i64 0, .int .i64 0, .int .i64 0, .int .i64 0, .int .i64 0, .int .i64 0, .int .i64 0, .int .i64 0, .int .i64 0, .int .i64 0, .int .i64 0, .int .i64 0, .int .i64 0, .int .i64 0, .int .i64 0, .int .i64 0, .int .i64 0, .int .i64 0, .int .i64 0, .int .i64 0, .int .i64 0, .int .i64 0, .int .i64 0, .bool false] := by kernel_rfl
@[simp] theorem T_sz55 : szT Tryd.prog 55 = 1 := by kernel_rfl
@[simp] theorem T_ag55 : aggT Tryd.prog 55 = some false := by kernel_rfl
@[simp] theorem T_sz56 : szT Tryd.prog 56 = 1 := by kernel_rfl
@[simp] theorem T_ag56 : aggT Tryd.prog 56 = some false := by kernel_rfl
@[simp] theorem T_el56 : elT Tryd.prog 56 = some 3 := by kernel_rfl
@[simp] theorem T_ar56 : arrT Tryd.prog 56 = none := by kernel_rfl
@[simp] theorem T_st56 : strT Tryd.prog 56 = false := by kernel_rfl
@[simp] theorem T_by56 : byT Tryd.prog 56 = 24 := by kernel_rfl
@[simp] theorem T_z56 : zT Tryd.prog 56 = some [.slice 1 true []] := by kernel_rfl
@[simp] theorem T_sz57 : szT Tryd.prog 57 = 4 := by kernel_rfl
@[simp] theorem T_ag57 : aggT Tryd.prog 57 = some true := by kernel_rfl
@[simp] theorem T_el57 : elT Tryd.prog 57 = none := by kernel_rfl
@[simp] theorem T_ar57 : arrT Tryd.prog 57 = none := by kernel_rfl
@[simp] theorem T_by57 : byT Tryd.prog 57 = 80 := by kernel_rfl
@[simp] theorem T_f57_0 : fldT Tryd.prog 57 0 = some (0, 22) := by kernel_rfl
@[simp] theorem T_f57_1 : fldT Tryd.prog 57 1 = some (1, 56) := by kernel_rfl
@[simp] theorem T_f57_2 : fldT Tryd.prog 57 2 = some (2, 23) := by kernel_rfl
@[simp] theorem T_f57_3 : fldT Tryd.prog 57 3 = some (3, 4) := by kernel_rfl
@[simp] theorem T_if57 : infoAll Tryd.prog 57 = true := by kernel_rfl
@[simp] theorem T_z57 : zT Tryd.prog 57 = some [.slice 1 true [], .slice 1 true [], .slice 2 true [], .bool false] := by kernel_rfl
@[simp] theorem T_sz58 : szT Tryd.prog 58 = 4 := by kernel_rfl
@[simp] theorem T_ag58 : aggT Tryd.prog 58 = some true := by kernel_rfl
@[simp] theorem T_el58 : elT Tryd.prog 58 = none := by kernel_rfl
@[simp] theorem T_ar58 : arrT Tryd.prog 58 = none := by kernel_rfl
@[simp] theorem T_by58 : byT Tryd.prog 58 = 80 := by kernel_rfl
@[simp] theorem T_f58_0 : fldT Tryd.prog 58 0 = some (0, 22) := by kernel_rfl
@[simp] theorem T_f58_1 : fldT Tryd.prog 58 1 = some (1, 56) := by kernel_rfl
@[simp] theorem T_f58_2 : fldT Tryd.prog 58 2 = some (2, 23) := by kernel_rfl
@[simp] theorem T_f58_3 : fldT Tryd.prog 58 3 = some (3, 4) := by kernel_rfl
@[simp] theorem T_if58 : infoAll Tryd.prog 58 = true := by kernel_rfl
@[simp] theorem T_z58 : zT Tryd.prog 58 = some [.slice 1 true [], .slice 1 true [], .slice 2 true [], .bool false] := by kernel_rfl
@[simp] theorem T_sz60 : szT Tryd.prog 60 = 1 := by kernel_rfl
@[simp] theorem T_ag60 : aggT Tryd.prog 60 = some false := by kernel_rfl
@[simp] theorem T_sz61 : szT Tryd.prog 61 = 1 := by kernel_rfl
@[simp] theorem T_ag61 : aggT Tryd.prog 61 = some false := by kernel_rfl
@[simp] theorem T_sz62 : szT Tryd.prog 62 = 1 := by kernel_rfl
@[simp] theorem T_ag62 : aggT Tryd.prog 62 = some false := by kernel_rfl
@[simp] theorem T_sz64 : szT Tryd.prog 64 = 1 := by kernel_rfl
@[simp] theorem T_ag64 : aggT Tryd.prog 64 = some false := by kernel_rfl
@[simp] theorem T_sz65 : szT Tryd.prog 65 = 1 := by kernel_rfl
@[simp] theorem T_ag65 : aggT Tryd.prog 65 = some false := by kernel_rfl
@[simp] theorem T_sz66 : szT Tryd.prog 66 = 1 := by kernel_rfl
@[simp] theorem T_ag66 : aggT Tryd.prog 66 = some false := by kernel_rfl
@[simp] theorem T_sz67 : szT Tryd.prog 67 = 1 := by kernel_rfl
@[simp] theorem T_ag67 : aggT Tryd.prog 67 = some false := by kernel_rfl
@[simp] theorem T_sz69 : szT Tryd.prog 69 = 1 := by kernel_rfl
@[simp] theorem T_ag69 : aggT Tryd.prog 69 = some false := by kernel_rfl
@[simp] theorem T_sz70 : szT Tryd.prog 70 = 1 := by kernel_rfl
@[simp] theorem T_ag70 : aggT Tryd.prog 70 = some false := by kernel_rfl
@[simp] theorem T_sz72 : szT Tryd.prog 72 = 1 := by kernel_rfl
@[simp] theorem T_ag72 : aggT Tryd.prog 72 = some false := by kernel_rfl
@[simp] theorem T_sz73 : szT Tryd.prog 73 = 1 := by kernel_rfl
@[simp] theorem T_ag73 : aggT Tryd.prog 73 = some false := by kernel_rfl
@[simp] theorem T_sz74 : szT Tryd.prog 74 = 1 := by kernel_rfl
@[simp] theorem T_ag74 : aggT Tryd.prog 74 = some false := by kernel_rfl
@[simp] theorem T_el74 : elT Tryd.prog 74 = none := by kernel_rfl
@[simp] theorem T_ar74 : arrT Tryd.prog 74 = none := by kernel_rfl
@[simp] theorem T_in74 : intT Tryd.prog 74 = some .u64 := by kernel_rfl
@[simp] theorem T_bo74 : boolT Tryd.prog 74 = false := by kernel_rfl
@[simp] theorem T_bt74 : byteT Tryd.prog 74 = false := by kernel_rfl
@[simp] theorem T_by74 : byT Tryd.prog 74 = 8 := by kernel_rfl
@[simp] theorem T_z74 : zT Tryd.prog 74 = some [.int .u64 0] := by kernel_rfl
@[simp] theorem T_sz75 : szT Tryd.prog 75 = 3 := by kernel_rfl
@[simp] theorem T_ag75 : aggT Tryd.prog 75 = some true := by kernel_rfl
@[simp] theorem T_el75 : elT Tryd.prog 75 = none := by kernel_rfl
@[simp] theorem T_ar75 : arrT Tryd.prog 75 = none := by kernel_rfl
@[simp] theorem T_by75 : byT Tryd.prog 75 = 24 := by kernel_rfl
@[simp] theorem T_f75_0 : fldT Tryd.prog 75 0 = some (0, 4) := by kernel_rfl
@[simp] theorem T_f75_1 : fldT Tryd.prog 75 1 = some (1, 74) := by kernel_rfl
@[simp] theorem T_f75_2 : fldT Tryd.prog 75 2 = some (2, 74) := by kernel_rfl
@[simp] theorem T_if75 : infoAll Tryd.prog 75 = true := by kernel_rfl
@[simp] theorem T_z75 : zT Tryd.prog 75 = some [.bool false, .int .u64 0, .int .u64 0] := by kernel_rfl
@[simp] theorem T_sz76 : szT Tryd.prog 76 = 3 := by kernel_rfl
@[simp] theorem T_ag76 : aggT Tryd.prog 76 = some true := by kernel_rfl
@[simp] theorem T_el76 : elT Tryd.prog 76 = none := by kernel_rfl
@[simp] theorem T_ar76 : arrT Tryd.prog 76 = none := by kernel_rfl
@[simp] theorem T_by76 : byT Tryd.prog 76 = 24 := by kernel_rfl
@[simp] theorem T_f76_0 : fldT Tryd.prog 76 0 = some (0, 4) := by kernel_rfl
@[simp] theorem T_f76_1 : fldT Tryd.prog 76 1 = some (1, 74) := by kernel_rfl
@[simp] theorem T_f76_2 : fldT Tryd.prog 76 2 = some (2, 74) := by kernel_rfl
@[simp] theorem T_fl76 : flatT Tryd.prog 76 = some [.b, .i, .i] := by kernel_rfl
@[simp] theorem T_if76 : infoAll Tryd.prog 76 = true := by kernel_rfl
@[simp] theorem T_z76 : zT Tryd.prog 76 = some [.bool false, .int .u64 0, .int .u64 0] := by kernel_rfl
@[simp] theorem T_sz77 : szT Tryd.prog 77 = 1 := by kernel_rfl
@[simp] theorem T_ag77 : aggT Tryd.prog 77 = some false := by kernel_rfl
@[simp] theorem T_sz78 : szT Tryd.prog 78 = 1 := by kernel_rfl
@[simp] theorem T_ag78 : aggT Tryd.prog 78 = some false := by kernel_rfl
@[simp] theorem T_sz79 : szT Tryd.prog 79 = 1 := by kernel_rfl
@[simp] theorem T_ag79 : aggT Tryd.prog 79 = some false := by kernel_rfl
@[simp] theorem T_sz80 : szT Tryd.prog 80 = 1 := by kernel_rfl
@[simp] theorem T_ag80 : aggT Tryd.prog 80 = some false := by kernel_rfl
@[simp] theorem T_sz81 : szT Tryd.prog 81 = 1 := by kernel_rfl
@[simp] theorem T_ag81 : aggT Tryd.prog 81 = some false := by kernel_rfl
@[simp] theorem T_sz82 : szT Tryd.prog 82 = 1 := by kernel_rfl
@[simp] theorem T_ag82 : aggT Tryd.prog 82 = some false := by kernel_rfl
@[simp] theorem T_sz83 : szT Tryd.prog 83 = 1 := by kernel_rfl
@[simp] theorem T_ag83 : aggT Tryd.prog 83 = some false := by kernel_rfl
@[simp] theorem T_sz84 : szT Tryd.prog 84 = 1 := by kernel_rfl
@[simp] theorem T_ag84 : aggT Tryd.prog 84 = some false := by kernel_rfl
@[simp] theorem T_sz85 : szT Tryd.prog 85 = 1 := by kernel_rfl
@[simp] theorem T_ag85 : aggT Tryd.prog 85 = some false := by kernel_rfl
@[simp] theorem T_sz86 : szT Tryd.prog 86 = 1 := by kernel_rfl
@[simp] theorem T_ag86 : aggT Tryd.prog 86 = some false := by kernel_rfl
@[simp] theorem T_sz87 : szT Tryd.prog 87 = 1 := by kernel_rfl
@[simp] theorem T_ag87 : aggT Tryd.prog 87 = some false := by kernel_rfl
@[simp] theorem T_sz88 : szT Tryd.prog 88 = 1 := by kernel_rfl
@[simp] theorem T_ag88 : aggT Tryd.prog 88 = some false := by kernel_rfl
@[simp] theorem T_sz89 : szT Tryd.prog 89 = 1 := by kernel_rfl
@[simp] theorem T_ag89 : aggT Tryd.prog 89 = some false := by kernel_rfl
@[simp] theorem T_sz91 : szT Tryd.prog 91 = 1 := by kernel_rfl
@[simp] theorem T_ag91 : aggT Tryd.prog 91 = some false := by kernel_rfl
@[simp] theorem T_sz93 : szT Tryd.prog 93 = 1 := by kernel_rfl
@[simp] theorem T_ag93 : aggT Tryd.prog 93 = some false := by kernel_rfl
@[simp] theorem T_sz94 : szT Tryd.prog 94 = 1 := by kernel_rfl
@[simp] theorem T_ag94 : aggT Tryd.prog 94 = some false := by kernel_rfl
@[simp] theorem T_sz95 : szT Tryd.prog 95 = 1 := by kernel_rfl
@[simp] theorem T_ag95 : aggT Tryd.prog 95 = some false := by kernel_rfl
@[simp] theorem T_sz96 : szT Tryd.prog 96 = 1 := by kernel_rfl
@[simp] theorem T_ag96 : aggT Tryd.prog 96 = some false := by kernel_rfl
@[simp] theorem T_sz97 : szT Tryd.prog 97 = 1 := by kernel_rfl
@[simp] theorem T_ag97 : aggT Tryd.prog 97 = some false := by kernel_rfl
@[simp] theorem T_sz98 : szT Tryd.prog 98 = 1 := by kernel_rfl
@[simp] theorem T_ag98 : aggT Tryd.prog 98 = some false := by kernel_rfl
@[simp] theorem T_sz99 : szT Tryd.prog 99 = 1 := by kernel_rfl
@[simp] theorem T_ag99 : aggT Tryd.prog 99 = some false := by kernel_rfl
@[simp] theorem T_el99 : elT Tryd.prog 99 = none := by kernel_rfl
@[simp] theorem T_ar99 : arrT Tryd.prog 99 = none := by kernel_rfl
@[simp] theorem T_in99 : intT Tryd.prog 99 = some .u64 := by kernel_rfl
@[simp] theorem T_bo99 : boolT Tryd.prog 99 = false := by kernel_rfl
@[simp] theorem T_bt99 : byteT Tryd.prog 99 = false := by kernel_rfl
@[simp] theorem T_by99 : byT Tryd.prog 99 = 8 := by kernel_rfl
@[simp] theorem T_z99 : zT Tryd.prog 99 = some [.int .u64 0] := by kernel_rfl
@[simp] theorem T_sz102 : szT Tryd.prog 102 = 1 := by kernel_rfl
@[simp] theorem T_ag102 : aggT Tryd.prog 102 = some false := by kernel_rfl
@[simp] theorem T_sz103 : szT Tryd.prog 103 = 1 := by kernel_rfl
@[simp] theorem T_ag103 : aggT Tryd.prog 103 = some false := by kernel_rfl
@[simp] theorem T_el103 : elT Tryd.prog 103 = none := by kernel_rfl
@[simp] theorem T_ar103 : arrT Tryd.prog 103 = none := by kernel_rfl
@[simp] theorem T_st103 : strT Tryd.prog 103 = false := by kernel_rfl
@[simp] theorem T_pt103 : ptrT Tryd.prog 103 = true := by kernel_rfl
@[simp] theorem T_by103 : byT Tryd.prog 103 = 8 := by kernel_rfl
@[simp] theorem T_z103 : zT Tryd.prog 103 = some [.nilptr] := by kernel_rfl
@[simp] theorem T_sz104 : szT Tryd.prog 104 = 1 := by kernel_rfl
@[simp] theorem T_ag104 : aggT Tryd.prog 104 = some false := by kernel_rfl
@[simp] theorem T_sz105 : szT Tryd.prog 105 = 4 := by kernel_rfl
@[simp] theorem T_ag105 : aggT Tryd.prog 105 = some true := by kernel_rfl
@[simp] theorem T_el105 : elT Tryd.prog 105 = none := by kernel_rfl
@[simp] theorem T_ar105 : arrT Tryd.prog 105 = none := by kernel_rfl
@[simp] theorem T_by105 : byT Tryd.prog 105 = 40 := by kernel_rfl
@[simp] theorem T_f105_0 : fldT Tryd.prog 105 0 = some (0, 17) := by kernel_rfl
@[simp] theorem T_f105_1 : fldT Tryd.prog 105 1 = some (1, 17) := by kernel_rfl
@[simp] theorem T_f105_2 : fldT Tryd.prog 105 2 = some (2, 17) := by kernel_rfl
@[simp] theorem T_f105_3 : fldT Tryd.prog 105 3 = some (3, 9) := by kernel_rfl
@[simp] theorem T_if105 : infoAll Tryd.prog 105 = true := by kernel_rfl
@[simp] theorem T_z105 : zT Tryd.prog 105 = some [.nilptr, .nilptr, .nilptr, .str ByteArray.empty] := by kernel_rfl
@[simp] theorem T_sz106 : szT Tryd.prog 106 = 4 := by kernel_rfl
@[simp] theorem T_ag106 : aggT Tryd.prog 106 = some true := by kernel_rfl
@[simp] theorem T_el106 : elT Tryd.prog 106 = none := by kernel_rfl
@[simp] theorem T_ar106 : arrT Tryd.prog 106 = none := by kernel_rfl
@[simp] theorem T_by106 : byT Tryd.prog 106 = 40 := by kernel_rfl
@[simp] theorem T_f106_0 : fldT Tryd.prog 106 0 = some (0, 17) := by kernel_rfl
@[simp] theorem T_f106_1 : fldT Tryd.prog 106 1 = some (1, 17) := by kernel_rfl
@[simp] theorem T_f106_2 : fldT Tryd.prog 106 2 = some (2, 17) := by kernel_rfl
@[simp] theorem T_f106_3 : fldT Tryd.prog 106 3 = some (3, 9) := by kernel_rfl
@[simp] theorem T_if106 : infoAll Tryd.prog 106 = true := by kernel_rfl
@[simp] theorem T_z106 : zT Tryd.prog 106 = some [.nilptr, .nilptr, .nilptr, .str ByteArray.empty] := by kernel_rfl
@[simp] theorem T_sz107 : szT Tryd.prog 107 = 0 := by kernel_rfl
@[simp] theorem T_ag107 : aggT Tryd.prog 107 = some true := by kernel_rfl
@[simp] theorem T_el107 : elT Tryd.prog 107 = none := by kernel_rfl
@[simp] theorem T_ar107 : arrT Tryd.prog 107 = some (0, 16) := by kernel_rfl
@[simp] theorem T_st107 : strT Tryd.prog 107 = false := by kernel_rfl
@[simp] theorem T_by107 : byT Tryd.prog 107 = 0 := by kernel_rfl
@[simp] theorem T_sz108 : szT Tryd.prog 108 = 0 := by kernel_rfl
@[simp] theorem T_ag108 : aggT Tryd.prog 108 = some true := by kernel_rfl
@[simp] theorem T_el108 : elT Tryd.prog 108 = none := by kernel_rfl
@[simp] theorem T_ar108 : arrT Tryd.prog 108 = none := by kernel_rfl
@[simp] theorem T_by108 : byT Tryd.prog 108 = 0 := by kernel_rfl
@[simp] theorem T_f108_0 : fldT Tryd.prog 108 0 = some (0, 107) := by kernel_rfl
@[simp] theorem T_if108 : infoAll Tryd.prog 108 = true := by kernel_rfl
@[simp] theorem T_sz109 : szT Tryd.prog 109 = 0 := by kernel_rfl
@[simp] theorem T_ag109 : aggT Tryd.prog 109 = some true := by kernel_rfl
@[simp] theorem T_el109 : elT Tryd.prog 109 = none := by kernel_rfl
@[simp] theorem T_ar109 : arrT Tryd.prog 109 = none := by kernel_rfl
@[simp] theorem T_by109 : byT Tryd.prog 109 = 0 := by kernel_rfl
@[simp] theorem T_f109_0 : fldT Tryd.prog 109 0 = some (0, 107) := by kernel_rfl
@[simp] theorem T_if109 : infoAll Tryd.prog 109 = true := by kernel_rfl
@[simp] theorem T_sz110 : szT Tryd.prog 110 = 1 := by kernel_rfl
@[simp] theorem T_ag110 : aggT Tryd.prog 110 = some false := by kernel_rfl
@[simp] theorem T_el110 : elT Tryd.prog 110 = none := by kernel_rfl
@[simp] theorem T_ar110 : arrT Tryd.prog 110 = none := by kernel_rfl
@[simp] theorem T_in110 : intT Tryd.prog 110 = some .u32 := by kernel_rfl
@[simp] theorem T_bo110 : boolT Tryd.prog 110 = false := by kernel_rfl
@[simp] theorem T_bt110 : byteT Tryd.prog 110 = false := by kernel_rfl
@[simp] theorem T_by110 : byT Tryd.prog 110 = 4 := by kernel_rfl
@[simp] theorem T_z110 : zT Tryd.prog 110 = some [.int .u32 0] := by kernel_rfl
@[simp] theorem T_sz111 : szT Tryd.prog 111 = 1 := by kernel_rfl
@[simp] theorem T_ag111 : aggT Tryd.prog 111 = some false := by kernel_rfl
@[simp] theorem T_el111 : elT Tryd.prog 111 = none := by kernel_rfl
@[simp] theorem T_ar111 : arrT Tryd.prog 111 = none := by kernel_rfl
@[simp] theorem T_in111 : intT Tryd.prog 111 = some .u8 := by kernel_rfl
@[simp] theorem T_bo111 : boolT Tryd.prog 111 = false := by kernel_rfl
@[simp] theorem T_bt111 : byteT Tryd.prog 111 = true := by kernel_rfl
@[simp] theorem T_by111 : byT Tryd.prog 111 = 1 := by kernel_rfl
@[simp] theorem T_z111 : zT Tryd.prog 111 = some [.int .u8 0] := by kernel_rfl
@[simp] theorem T_sz112 : szT Tryd.prog 112 = 1 := by kernel_rfl
@[simp] theorem T_ag112 : aggT Tryd.prog 112 = some false := by kernel_rfl
@[simp] theorem T_el112 : elT Tryd.prog 112 = none := by kernel_rfl
@[simp] theorem T_ar112 : arrT Tryd.prog 112 = none := by kernel_rfl
@[simp] theorem T_in112 : intT Tryd.prog 112 = some .u8 := by kernel_rfl
@[simp] theorem T_bo112 : boolT Tryd.prog 112 = false := by kernel_rfl
@[simp] theorem T_bt112 : byteT Tryd.prog 112 = true := by kernel_rfl
@[simp] theorem T_by112 : byT Tryd.prog 112 = 1 := by kernel_rfl
@[simp] theorem T_z112 : zT Tryd.prog 112 = some [.int .u8 0] := by kernel_rfl
@[simp] theorem T_sz113 : szT Tryd.prog 113 = 1 := by kernel_rfl
@[simp] theorem T_ag113 : aggT Tryd.prog 113 = some false := by kernel_rfl
@[simp] theorem T_sz114 : szT Tryd.prog 114 = 1 := by kernel_rfl
@[simp] theorem T_ag114 : aggT Tryd.prog 114 = some false := by kernel_rfl
@[simp] theorem T_el114 : elT Tryd.prog 114 = none := by kernel_rfl
@[simp] theorem T_ar114 : arrT Tryd.prog 114 = none := by kernel_rfl
@[simp] theorem T_st114 : strT Tryd.prog 114 = false := by kernel_rfl
@[simp] theorem T_pt114 : ptrT Tryd.prog 114 = true := by kernel_rfl
@[simp] theorem T_by114 : byT Tryd.prog 114 = 8 := by kernel_rfl
@[simp] theorem T_z114 : zT Tryd.prog 114 = some [.nilptr] := by kernel_rfl
@[simp] theorem T_sz115 : szT Tryd.prog 115 = 1 := by kernel_rfl
@[simp] theorem T_ag115 : aggT Tryd.prog 115 = some false := by kernel_rfl
@[simp] theorem T_el115 : elT Tryd.prog 115 = none := by kernel_rfl
@[simp] theorem T_ar115 : arrT Tryd.prog 115 = none := by kernel_rfl
@[simp] theorem T_in115 : intT Tryd.prog 115 = some .i32 := by kernel_rfl
@[simp] theorem T_bo115 : boolT Tryd.prog 115 = false := by kernel_rfl
@[simp] theorem T_bt115 : byteT Tryd.prog 115 = false := by kernel_rfl
@[simp] theorem T_by115 : byT Tryd.prog 115 = 4 := by kernel_rfl
@[simp] theorem T_z115 : zT Tryd.prog 115 = some [.int .i32 0] := by kernel_rfl
@[simp] theorem T_sz116 : szT Tryd.prog 116 = 1 := by kernel_rfl
@[simp] theorem T_ag116 : aggT Tryd.prog 116 = some false := by kernel_rfl
@[simp] theorem T_el116 : elT Tryd.prog 116 = none := by kernel_rfl
@[simp] theorem T_ar116 : arrT Tryd.prog 116 = none := by kernel_rfl
@[simp] theorem T_in116 : intT Tryd.prog 116 = some .i32 := by kernel_rfl
@[simp] theorem T_bo116 : boolT Tryd.prog 116 = false := by kernel_rfl
@[simp] theorem T_bt116 : byteT Tryd.prog 116 = false := by kernel_rfl
@[simp] theorem T_by116 : byT Tryd.prog 116 = 4 := by kernel_rfl
@[simp] theorem T_z116 : zT Tryd.prog 116 = some [.int .i32 0] := by kernel_rfl
@[simp] theorem T_sz117 : szT Tryd.prog 117 = 11 := by kernel_rfl
@[simp] theorem T_ag117 : aggT Tryd.prog 117 = some true := by kernel_rfl
@[simp] theorem T_el117 : elT Tryd.prog 117 = none := by kernel_rfl
@[simp] theorem T_ar117 : arrT Tryd.prog 117 = none := by kernel_rfl
@[simp] theorem T_by117 : byT Tryd.prog 117 = 48 := by kernel_rfl
@[simp] theorem T_f117_0 : fldT Tryd.prog 117 0 = some (0, 12) := by kernel_rfl
@[simp] theorem T_f117_1 : fldT Tryd.prog 117 1 = some (1, 12) := by kernel_rfl
@[simp] theorem T_f117_2 : fldT Tryd.prog 117 2 = some (2, 110) := by kernel_rfl
@[simp] theorem T_f117_3 : fldT Tryd.prog 117 3 = some (3, 111) := by kernel_rfl
@[simp] theorem T_f117_4 : fldT Tryd.prog 117 4 = some (4, 5) := by kernel_rfl
@[simp] theorem T_f117_5 : fldT Tryd.prog 117 5 = some (5, 5) := by kernel_rfl
@[simp] theorem T_f117_6 : fldT Tryd.prog 117 6 = some (6, 112) := by kernel_rfl
@[simp] theorem T_f117_7 : fldT Tryd.prog 117 7 = some (7, 113) := by kernel_rfl
@[simp] theorem T_f117_8 : fldT Tryd.prog 117 8 = some (8, 114) := by kernel_rfl
@[simp] theorem T_f117_9 : fldT Tryd.prog 117 9 = some (9, 115) := by kernel_rfl
@[simp] theorem T_f117_10 : fldT Tryd.prog 117 10 = some (10, 116) := by kernel_rfl
@[simp] theorem T_if117 : infoAll Tryd.prog 117 = true := by kernel_rfl
@[simp] theorem T_sz118 : szT Tryd.prog 118 = 11 := by kernel_rfl
@[simp] theorem T_ag118 : aggT Tryd.prog 118 = some true := by kernel_rfl
@[simp] theorem T_el118 : elT Tryd.prog 118 = none := by kernel_rfl
@[simp] theorem T_ar118 : arrT Tryd.prog 118 = none := by kernel_rfl
@[simp] theorem T_by118 : byT Tryd.prog 118 = 48 := by kernel_rfl
@[simp] theorem T_f118_0 : fldT Tryd.prog 118 0 = some (0, 12) := by kernel_rfl
@[simp] theorem T_f118_1 : fldT Tryd.prog 118 1 = some (1, 12) := by kernel_rfl
@[simp] theorem T_f118_2 : fldT Tryd.prog 118 2 = some (2, 110) := by kernel_rfl
@[simp] theorem T_f118_3 : fldT Tryd.prog 118 3 = some (3, 111) := by kernel_rfl
@[simp] theorem T_f118_4 : fldT Tryd.prog 118 4 = some (4, 5) := by kernel_rfl
@[simp] theorem T_f118_5 : fldT Tryd.prog 118 5 = some (5, 5) := by kernel_rfl
@[simp] theorem T_f118_6 : fldT Tryd.prog 118 6 = some (6, 112) := by kernel_rfl
@[simp] theorem T_f118_7 : fldT Tryd.prog 118 7 = some (7, 113) := by kernel_rfl
@[simp] theorem T_f118_8 : fldT Tryd.prog 118 8 = some (8, 114) := by kernel_rfl
@[simp] theorem T_f118_9 : fldT Tryd.prog 118 9 = some (9, 115) := by kernel_rfl
@[simp] theorem T_f118_10 : fldT Tryd.prog 118 10 = some (10, 116) := by kernel_rfl
@[simp] theorem T_if118 : infoAll Tryd.prog 118 = true := by kernel_rfl
@[simp] theorem T_sz119 : szT Tryd.prog 119 = 1 := by kernel_rfl
@[simp] theorem T_ag119 : aggT Tryd.prog 119 = some true := by kernel_rfl
@[simp] theorem T_el119 : elT Tryd.prog 119 = none := by kernel_rfl
@[simp] theorem T_ar119 : arrT Tryd.prog 119 = none := by kernel_rfl
@[simp] theorem T_by119 : byT Tryd.prog 119 = 16 := by kernel_rfl
@[simp] theorem T_f119_0 : fldT Tryd.prog 119 0 = some (0, 9) := by kernel_rfl
@[simp] theorem T_if119 : infoAll Tryd.prog 119 = true := by kernel_rfl
@[simp] theorem T_z119 : zT Tryd.prog 119 = some [.str ByteArray.empty] := by kernel_rfl
@[simp] theorem T_sz120 : szT Tryd.prog 120 = 1 := by kernel_rfl
@[simp] theorem T_ag120 : aggT Tryd.prog 120 = some true := by kernel_rfl
@[simp] theorem T_el120 : elT Tryd.prog 120 = none := by kernel_rfl
@[simp] theorem T_ar120 : arrT Tryd.prog 120 = none := by kernel_rfl
@[simp] theorem T_by120 : byT Tryd.prog 120 = 16 := by kernel_rfl
@[simp] theorem T_f120_0 : fldT Tryd.prog 120 0 = some (0, 9) := by kernel_rfl
@[simp] theorem T_if120 : infoAll Tryd.prog 120 = true := by kernel_rfl
@[simp] theorem T_z120 : zT Tryd.prog 120 = some [.str ByteArray.empty] := by kernel_rfl

theorem mixed : Tryd.prog.follows .mixedOrders = true := by kernel_rfl

end Go.Proofs.YtifbaegnkodneaaDoor
