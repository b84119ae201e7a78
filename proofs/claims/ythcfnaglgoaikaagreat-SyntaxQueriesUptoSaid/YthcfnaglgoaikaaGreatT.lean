/-
  What the operations ask of the types of this program. Printed by wip/types.py.
-/
import Derived.Test.YthcfnaglgoaikaaGreatAmE
import Derived.Test.YthcfnaglgoaikaaGreatChecked
namespace Go.Proofs.YthcfnaglgoaikaaGreat
open Go.RowKit
set_option maxRecDepth 100000

@[simp] theorem T_sz1 : szT Tryz.prog 1 = 1 := by kernel_rfl
@[simp] theorem T_ag1 : aggT Tryz.prog 1 = some false := by kernel_rfl
@[simp] theorem T_sz2 : szT Tryz.prog 2 = 1 := by kernel_rfl
@[simp] theorem T_ag2 : aggT Tryz.prog 2 = some false := by kernel_rfl
@[simp] theorem T_el2 : elT Tryz.prog 2 = none := by kernel_rfl
@[simp] theorem T_ar2 : arrT Tryz.prog 2 = none := by kernel_rfl
@[simp] theorem T_in2 : intT Tryz.prog 2 = some .i64 := by kernel_rfl
@[simp] theorem T_bo2 : boolT Tryz.prog 2 = false := by kernel_rfl
@[simp] theorem T_bt2 : byteT Tryz.prog 2 = false := by kernel_rfl
@[simp] theorem T_by2 : byT Tryz.prog 2 = 8 := by kernel_rfl
@[simp] theorem T_z2 : zT Tryz.prog 2 = some [.int .i64 0] := by kernel_rfl
@[simp] theorem T_sz3 : szT Tryz.prog 3 = 1 := by kernel_rfl
@[simp] theorem T_ag3 : aggT Tryz.prog 3 = some false := by kernel_rfl
@[simp] theorem T_el3 : elT Tryz.prog 3 = none := by kernel_rfl
@[simp] theorem T_ar3 : arrT Tryz.prog 3 = none := by kernel_rfl
@[simp] theorem T_in3 : intT Tryz.prog 3 = some .i64 := by kernel_rfl
@[simp] theorem T_bo3 : boolT Tryz.prog 3 = false := by kernel_rfl
@[simp] theorem T_bt3 : byteT Tryz.prog 3 = false := by kernel_rfl
@[simp] theorem T_by3 : byT Tryz.prog 3 = 8 := by kernel_rfl
@[simp] theorem T_z3 : zT Tryz.prog 3 = some [.int .i64 0] := by kernel_rfl
@[simp] theorem T_sz4 : szT Tryz.prog 4 = 1 := by kernel_rfl
@[simp] theorem T_ag4 : aggT Tryz.prog 4 = some false := by kernel_rfl
@[simp] theorem T_in4 : intT Tryz.prog 4 = none := by kernel_rfl
@[simp] theorem T_bo4 : boolT Tryz.prog 4 = true := by kernel_rfl
@[simp] theorem T_bt4 : byteT Tryz.prog 4 = false := by kernel_rfl
@[simp] theorem T_by4 : byT Tryz.prog 4 = 1 := by kernel_rfl
@[simp] theorem T_z4 : zT Tryz.prog 4 = some [.bool false] := by kernel_rfl
@[simp] theorem T_sz5 : szT Tryz.prog 5 = 1 := by kernel_rfl
@[simp] theorem T_ag5 : aggT Tryz.prog 5 = some false := by kernel_rfl
@[simp] theorem T_el5 : elT Tryz.prog 5 = none := by kernel_rfl
@[simp] theorem T_ar5 : arrT Tryz.prog 5 = none := by kernel_rfl
@[simp] theorem T_in5 : intT Tryz.prog 5 = some .u8 := by kernel_rfl
@[simp] theorem T_bo5 : boolT Tryz.prog 5 = false := by kernel_rfl
@[simp] theorem T_bt5 : byteT Tryz.prog 5 = true := by kernel_rfl
@[simp] theorem T_by5 : byT Tryz.prog 5 = 1 := by kernel_rfl
@[simp] theorem T_z5 : zT Tryz.prog 5 = some [.int .u8 0] := by kernel_rfl
@[simp] theorem T_sz6 : szT Tryz.prog 6 = 1 := by kernel_rfl
@[simp] theorem T_ag6 : aggT Tryz.prog 6 = some false := by kernel_rfl
@[simp] theorem T_el6 : elT Tryz.prog 6 = none := by kernel_rfl
@[simp] theorem T_ar6 : arrT Tryz.prog 6 = none := by kernel_rfl
@[simp] theorem T_in6 : intT Tryz.prog 6 = some .u8 := by kernel_rfl
@[simp] theorem T_bo6 : boolT Tryz.prog 6 = false := by kernel_rfl
@[simp] theorem T_bt6 : byteT Tryz.prog 6 = true := by kernel_rfl
@[simp] theorem T_by6 : byT Tryz.prog 6 = 1 := by kernel_rfl
@[simp] theorem T_z6 : zT Tryz.prog 6 = some [.int .u8 0] := by kernel_rfl
@[simp] theorem T_sz7 : szT Tryz.prog 7 = 4 := by kernel_rfl
@[simp] theorem T_ag7 : aggT Tryz.prog 7 = some true := by kernel_rfl
@[simp] theorem T_el7 : elT Tryz.prog 7 = none := by kernel_rfl
@[simp] theorem T_ar7 : arrT Tryz.prog 7 = none := by kernel_rfl
@[simp] theorem T_by7 : byT Tryz.prog 7 = 24 := by kernel_rfl
@[simp] theorem T_f7_0 : fldT Tryz.prog 7 0 = some (0, 2) := by kernel_rfl
@[simp] theorem T_f7_1 : fldT Tryz.prog 7 1 = some (1, 3) := by kernel_rfl
@[simp] theorem T_f7_2 : fldT Tryz.prog 7 2 = some (2, 4) := by kernel_rfl
@[simp] theorem T_f7_3 : fldT Tryz.prog 7 3 = some (3, 6) := by kernel_rfl
@[simp] theorem T_if7 : infoAll Tryz.prog 7 = true := by kernel_rfl
@[simp] theorem T_z7 : zT Tryz.prog 7 = some [.int .i64 0, .int .i64 0, .bool false, .int .u8 0] := by kernel_rfl
@[simp] theorem T_sz8 : szT Tryz.prog 8 = 4 := by kernel_rfl
@[simp] theorem T_ag8 : aggT Tryz.prog 8 = some true := by kernel_rfl
@[simp] theorem T_el8 : elT Tryz.prog 8 = none := by kernel_rfl
@[simp] theorem T_ar8 : arrT Tryz.prog 8 = none := by kernel_rfl
@[simp] theorem T_by8 : byT Tryz.prog 8 = 24 := by kernel_rfl
@[simp] theorem T_f8_0 : fldT Tryz.prog 8 0 = some (0, 2) := by kernel_rfl
@[simp] theorem T_f8_1 : fldT Tryz.prog 8 1 = some (1, 3) := by kernel_rfl
@[simp] theorem T_f8_2 : fldT Tryz.prog 8 2 = some (2, 4) := by kernel_rfl
@[simp] theorem T_f8_3 : fldT Tryz.prog 8 3 = some (3, 6) := by kernel_rfl
@[simp] theorem T_if8 : infoAll Tryz.prog 8 = true := by kernel_rfl
@[simp] theorem T_z8 : zT Tryz.prog 8 = some [.int .i64 0, .int .i64 0, .bool false, .int .u8 0] := by kernel_rfl
@[simp] theorem T_sz9 : szT Tryz.prog 9 = 1 := by kernel_rfl
@[simp] theorem T_ag9 : aggT Tryz.prog 9 = some false := by kernel_rfl
@[simp] theorem T_el9 : elT Tryz.prog 9 = none := by kernel_rfl
@[simp] theorem T_ar9 : arrT Tryz.prog 9 = none := by kernel_rfl
@[simp] theorem T_st9 : strT Tryz.prog 9 = true := by kernel_rfl
@[simp] theorem T_in9 : intT Tryz.prog 9 = none := by kernel_rfl
@[simp] theorem T_bo9 : boolT Tryz.prog 9 = false := by kernel_rfl
@[simp] theorem T_bt9 : byteT Tryz.prog 9 = false := by kernel_rfl
@[simp] theorem T_by9 : byT Tryz.prog 9 = 16 := by kernel_rfl
@[simp] theorem T_z9 : zT Tryz.prog 9 = some [.str ByteArray.empty] := by kernel_rfl
@[simp] theorem T_sz10 : szT Tryz.prog 10 = 1 := by kernel_rfl
@[simp] theorem T_ag10 : aggT Tryz.prog 10 = some false := by kernel_rfl
@[simp] theorem T_el10 : elT Tryz.prog 10 = none := by kernel_rfl
@[simp] theorem T_ar10 : arrT Tryz.prog 10 = none := by kernel_rfl
@[simp] theorem T_st10 : strT Tryz.prog 10 = true := by kernel_rfl
@[simp] theorem T_in10 : intT Tryz.prog 10 = none := by kernel_rfl
@[simp] theorem T_bo10 : boolT Tryz.prog 10 = false := by kernel_rfl
@[simp] theorem T_bt10 : byteT Tryz.prog 10 = false := by kernel_rfl
@[simp] theorem T_by10 : byT Tryz.prog 10 = 16 := by kernel_rfl
@[simp] theorem T_z10 : zT Tryz.prog 10 = some [.str ByteArray.empty] := by kernel_rfl
@[simp] theorem T_sz11 : szT Tryz.prog 11 = 1 := by kernel_rfl
@[simp] theorem T_ag11 : aggT Tryz.prog 11 = some false := by kernel_rfl
@[simp] theorem T_el11 : elT Tryz.prog 11 = none := by kernel_rfl
@[simp] theorem T_ar11 : arrT Tryz.prog 11 = none := by kernel_rfl
@[simp] theorem T_st11 : strT Tryz.prog 11 = true := by kernel_rfl
@[simp] theorem T_in11 : intT Tryz.prog 11 = none := by kernel_rfl
@[simp] theorem T_bo11 : boolT Tryz.prog 11 = false := by kernel_rfl
@[simp] theorem T_bt11 : byteT Tryz.prog 11 = false := by kernel_rfl
@[simp] theorem T_by11 : byT Tryz.prog 11 = 16 := by kernel_rfl
@[simp] theorem T_z11 : zT Tryz.prog 11 = some [.str ByteArray.empty] := by kernel_rfl
@[simp] theorem T_sz12 : szT Tryz.prog 12 = 1 := by kernel_rfl
@[simp] theorem T_ag12 : aggT Tryz.prog 12 = some false := by kernel_rfl
@[simp] theorem T_el12 : elT Tryz.prog 12 = none := by kernel_rfl
@[simp] theorem T_ar12 : arrT Tryz.prog 12 = none := by kernel_rfl
@[simp] theorem T_in12 : intT Tryz.prog 12 = some .u64 := by kernel_rfl
@[simp] theorem T_bo12 : boolT Tryz.prog 12 = false := by kernel_rfl
@[simp] theorem T_bt12 : byteT Tryz.prog 12 = false := by kernel_rfl
@[simp] theorem T_by12 : byT Tryz.prog 12 = 8 := by kernel_rfl
@[simp] theorem T_z12 : zT Tryz.prog 12 = some [.int .u64 0] := by kernel_rfl
@[simp] theorem T_sz13 : szT Tryz.prog 13 = 2 := by kernel_rfl
@[simp] theorem T_ag13 : aggT Tryz.prog 13 = some true := by kernel_rfl
@[simp] theorem T_el13 : elT Tryz.prog 13 = none := by kernel_rfl
@[simp] theorem T_ar13 : arrT Tryz.prog 13 = none := by kernel_rfl
@[simp] theorem T_by13 : byT Tryz.prog 13 = 24 := by kernel_rfl
@[simp] theorem T_f13_0 : fldT Tryz.prog 13 0 = some (0, 9) := by kernel_rfl
@[simp] theorem T_f13_1 : fldT Tryz.prog 13 1 = some (1, 12) := by kernel_rfl
@[simp] theorem T_if13 : infoAll Tryz.prog 13 = true := by kernel_rfl
@[simp] theorem T_z13 : zT Tryz.prog 13 = some [.str ByteArray.empty, .int .u64 0] := by kernel_rfl
@[simp] theorem T_sz14 : szT Tryz.prog 14 = 2 := by kernel_rfl
@[simp] theorem T_ag14 : aggT Tryz.prog 14 = some true := by kernel_rfl
@[simp] theorem T_el14 : elT Tryz.prog 14 = none := by kernel_rfl
@[simp] theorem T_ar14 : arrT Tryz.prog 14 = none := by kernel_rfl
@[simp] theorem T_by14 : byT Tryz.prog 14 = 24 := by kernel_rfl
@[simp] theorem T_f14_0 : fldT Tryz.prog 14 0 = some (0, 9) := by kernel_rfl
@[simp] theorem T_f14_1 : fldT Tryz.prog 14 1 = some (1, 12) := by kernel_rfl
@[simp] theorem T_if14 : infoAll Tryz.prog 14 = true := by kernel_rfl
@[simp] theorem T_z14 : zT Tryz.prog 14 = some [.str ByteArray.empty, .int .u64 0] := by kernel_rfl
@[simp] theorem T_sz15 : szT Tryz.prog 15 = 1 := by kernel_rfl
@[simp] theorem T_ag15 : aggT Tryz.prog 15 = some false := by kernel_rfl
@[simp] theorem T_el15 : elT Tryz.prog 15 = none := by kernel_rfl
@[simp] theorem T_ar15 : arrT Tryz.prog 15 = none := by kernel_rfl
@[simp] theorem T_st15 : strT Tryz.prog 15 = false := by kernel_rfl
@[simp] theorem T_pt15 : ptrT Tryz.prog 15 = true := by kernel_rfl
@[simp] theorem T_by15 : byT Tryz.prog 15 = 8 := by kernel_rfl
@[simp] theorem T_z15 : zT Tryz.prog 15 = some [.nilptr] := by kernel_rfl
@[simp] theorem T_sz16 : szT Tryz.prog 16 = 1 := by kernel_rfl
@[simp] theorem T_ag16 : aggT Tryz.prog 16 = some false := by kernel_rfl
@[simp] theorem T_el16 : elT Tryz.prog 16 = none := by kernel_rfl
@[simp] theorem T_ar16 : arrT Tryz.prog 16 = none := by kernel_rfl
@[simp] theorem T_st16 : strT Tryz.prog 16 = false := by kernel_rfl
@[simp] theorem T_pt16 : ptrT Tryz.prog 16 = true := by kernel_rfl
@[simp] theorem T_by16 : byT Tryz.prog 16 = 8 := by kernel_rfl
@[simp] theorem T_z16 : zT Tryz.prog 16 = some [.nilptr] := by kernel_rfl
@[simp] theorem T_sz17 : szT Tryz.prog 17 = 1 := by kernel_rfl
@[simp] theorem T_ag17 : aggT Tryz.prog 17 = some false := by kernel_rfl
@[simp] theorem T_el17 : elT Tryz.prog 17 = none := by kernel_rfl
@[simp] theorem T_ar17 : arrT Tryz.prog 17 = none := by kernel_rfl
@[simp] theorem T_st17 : strT Tryz.prog 17 = false := by kernel_rfl
@[simp] theorem T_pt17 : ptrT Tryz.prog 17 = true := by kernel_rfl
@[simp] theorem T_by17 : byT Tryz.prog 17 = 8 := by kernel_rfl
@[simp] theorem T_z17 : zT Tryz.prog 17 = some [.nilptr] := by kernel_rfl
@[simp] theorem T_sz18 : szT Tryz.prog 18 = 1 := by kernel_rfl
@[simp] theorem T_ag18 : aggT Tryz.prog 18 = some true := by kernel_rfl
@[simp] theorem T_el18 : elT Tryz.prog 18 = none := by kernel_rfl
@[simp] theorem T_ar18 : arrT Tryz.prog 18 = none := by kernel_rfl
@[simp] theorem T_by18 : byT Tryz.prog 18 = 8 := by kernel_rfl
@[simp] theorem T_f18_0 : fldT Tryz.prog 18 0 = some (0, 17) := by kernel_rfl
@[simp] theorem T_if18 : infoAll Tryz.prog 18 = true := by kernel_rfl
@[simp] theorem T_z18 : zT Tryz.prog 18 = some [.nilptr] := by kernel_rfl
@[simp] theorem T_sz19 : szT Tryz.prog 19 = 1 := by kernel_rfl
@[simp] theorem T_ag19 : aggT Tryz.prog 19 = some true := by kernel_rfl
@[simp] theorem T_el19 : elT Tryz.prog 19 = none := by kernel_rfl
@[simp] theorem T_ar19 : arrT Tryz.prog 19 = none := by kernel_rfl
@[simp] theorem T_by19 : byT Tryz.prog 19 = 8 := by kernel_rfl
@[simp] theorem T_f19_0 : fldT Tryz.prog 19 0 = some (0, 17) := by kernel_rfl
@[simp] theorem T_if19 : infoAll Tryz.prog 19 = true := by kernel_rfl
@[simp] theorem T_z19 : zT Tryz.prog 19 = some [.nilptr] := by kernel_rfl
@[simp] theorem T_sz21 : szT Tryz.prog 21 = 1 := by kernel_rfl
@[simp] theorem T_ag21 : aggT Tryz.prog 21 = some false := by kernel_rfl
@[simp] theorem T_el21 : elT Tryz.prog 21 = none := by kernel_rfl
@[simp] theorem T_ar21 : arrT Tryz.prog 21 = none := by kernel_rfl
@[simp] theorem T_in21 : intT Tryz.prog 21 = some .i32 := by kernel_rfl
@[simp] theorem T_bo21 : boolT Tryz.prog 21 = false := by kernel_rfl
@[simp] theorem T_bt21 : byteT Tryz.prog 21 = false := by kernel_rfl
@[simp] theorem T_by21 : byT Tryz.prog 21 = 4 := by kernel_rfl
@[simp] theorem T_z21 : zT Tryz.prog 21 = some [.int .i32 0] := by kernel_rfl
@[simp] theorem T_sz22 : szT Tryz.prog 22 = 1 := by kernel_rfl
@[simp] theorem T_ag22 : aggT Tryz.prog 22 = some false := by kernel_rfl
@[simp] theorem T_el22 : elT Tryz.prog 22 = some 58 := by kernel_rfl
@[simp] theorem T_ar22 : arrT Tryz.prog 22 = none := by kernel_rfl
@[simp] theorem T_st22 : strT Tryz.prog 22 = false := by kernel_rfl
@[simp] theorem T_by22 : byT Tryz.prog 22 = 24 := by kernel_rfl
@[simp] theorem T_z22 : zT Tryz.prog 22 = some [.slice 3 true []] := by kernel_rfl
@[simp] theorem T_sz23 : szT Tryz.prog 23 = 1 := by kernel_rfl
@[simp] theorem T_ag23 : aggT Tryz.prog 23 = some false := by kernel_rfl
@[simp] theorem T_el23 : elT Tryz.prog 23 = some 56 := by kernel_rfl
@[simp] theorem T_ar23 : arrT Tryz.prog 23 = none := by kernel_rfl
@[simp] theorem T_st23 : strT Tryz.prog 23 = false := by kernel_rfl
@[simp] theorem T_by23 : byT Tryz.prog 23 = 24 := by kernel_rfl
@[simp] theorem T_z23 : zT Tryz.prog 23 = some [.slice 7 true []] := by kernel_rfl
@[simp] theorem T_sz24 : szT Tryz.prog 24 = 3 := by kernel_rfl
@[simp] theorem T_ag24 : aggT Tryz.prog 24 = some true := by kernel_rfl
@[simp] theorem T_el24 : elT Tryz.prog 24 = none := by kernel_rfl
@[simp] theorem T_ar24 : arrT Tryz.prog 24 = none := by kernel_rfl
@[simp] theorem T_by24 : byT Tryz.prog 24 = 64 := by kernel_rfl
@[simp] theorem T_f24_0 : fldT Tryz.prog 24 0 = some (0, 9) := by kernel_rfl
@[simp] theorem T_f24_1 : fldT Tryz.prog 24 1 = some (1, 22) := by kernel_rfl
@[simp] theorem T_f24_2 : fldT Tryz.prog 24 2 = some (2, 23) := by kernel_rfl
@[simp] theorem T_if24 : infoAll Tryz.prog 24 = true := by kernel_rfl
@[simp] theorem T_z24 : zT Tryz.prog 24 = some [.str ByteArray.empty, .slice 3 true [], .slice 7 true []] := by kernel_rfl
@[simp] theorem T_sz25 : szT Tryz.prog 25 = 3 := by kernel_rfl
@[simp] theorem T_ag25 : aggT Tryz.prog 25 = some true := by kernel_rfl
@[simp] theorem T_el25 : elT Tryz.prog 25 = none := by kernel_rfl
@[simp] theorem T_ar25 : arrT Tryz.prog 25 = none := by kernel_rfl
@[simp] theorem T_by25 : byT Tryz.prog 25 = 64 := by kernel_rfl
@[simp] theorem T_f25_0 : fldT Tryz.prog 25 0 = some (0, 9) := by kernel_rfl
@[simp] theorem T_f25_1 : fldT Tryz.prog 25 1 = some (1, 22) := by kernel_rfl
@[simp] theorem T_f25_2 : fldT Tryz.prog 25 2 = some (2, 23) := by kernel_rfl
@[simp] theorem T_if25 : infoAll Tryz.prog 25 = true := by kernel_rfl
@[simp] theorem T_z25 : zT Tryz.prog 25 = some [.str ByteArray.empty, .slice 3 true [], .slice 7 true []] := by kernel_rfl
@[simp] theorem T_sz26 : szT Tryz.prog 26 = 1 := by kernel_rfl
@[simp] theorem T_ag26 : aggT Tryz.prog 26 = some false := by kernel_rfl
@[simp] theorem T_sz27 : szT Tryz.prog 27 = 1 := by kernel_rfl
@[simp] theorem T_ag27 : aggT Tryz.prog 27 = some false := by kernel_rfl
@[simp] theorem T_el27 : elT Tryz.prog 27 = some 25 := by kernel_rfl
@[simp] theorem T_ar27 : arrT Tryz.prog 27 = none := by kernel_rfl
@[simp] theorem T_st27 : strT Tryz.prog 27 = false := by kernel_rfl
@[simp] theorem T_by27 : byT Tryz.prog 27 = 24 := by kernel_rfl
@[simp] theorem T_z27 : zT Tryz.prog 27 = some [.slice 3 true []] := by kernel_rfl
@[simp] theorem T_sz28 : szT Tryz.prog 28 = 1 := by kernel_rfl
@[simp] theorem T_ag28 : aggT Tryz.prog 28 = some false := by kernel_rfl
@[simp] theorem T_el28 : elT Tryz.prog 28 = some 33 := by kernel_rfl
@[simp] theorem T_ar28 : arrT Tryz.prog 28 = none := by kernel_rfl
@[simp] theorem T_st28 : strT Tryz.prog 28 = false := by kernel_rfl
@[simp] theorem T_by28 : byT Tryz.prog 28 = 24 := by kernel_rfl
@[simp] theorem T_z28 : zT Tryz.prog 28 = some [.slice 9 true []] := by kernel_rfl
@[simp] theorem T_sz29 : szT Tryz.prog 29 = 1 := by kernel_rfl
@[simp] theorem T_ag29 : aggT Tryz.prog 29 = some false := by kernel_rfl
@[simp] theorem T_el29 : elT Tryz.prog 29 = some 31 := by kernel_rfl
@[simp] theorem T_ar29 : arrT Tryz.prog 29 = none := by kernel_rfl
@[simp] theorem T_st29 : strT Tryz.prog 29 = false := by kernel_rfl
@[simp] theorem T_by29 : byT Tryz.prog 29 = 24 := by kernel_rfl
@[simp] theorem T_z29 : zT Tryz.prog 29 = some [.slice 5 true []] := by kernel_rfl
@[simp] theorem T_sz30 : szT Tryz.prog 30 = 5 := by kernel_rfl
@[simp] theorem T_ag30 : aggT Tryz.prog 30 = some true := by kernel_rfl
@[simp] theorem T_el30 : elT Tryz.prog 30 = none := by kernel_rfl
@[simp] theorem T_ar30 : arrT Tryz.prog 30 = none := by kernel_rfl
@[simp] theorem T_by30 : byT Tryz.prog 30 = 64 := by kernel_rfl
@[simp] theorem T_f30_0 : fldT Tryz.prog 30 0 = some (0, 3) := by kernel_rfl
@[simp] theorem T_f30_1 : fldT Tryz.prog 30 1 = some (1, 3) := by kernel_rfl
@[simp] theorem T_f30_2 : fldT Tryz.prog 30 2 = some (2, 3) := by kernel_rfl
@[simp] theorem T_f30_3 : fldT Tryz.prog 30 3 = some (3, 9) := by kernel_rfl
@[simp] theorem T_f30_4 : fldT Tryz.prog 30 4 = some (4, 29) := by kernel_rfl
@[simp] theorem T_if30 : infoAll Tryz.prog 30 = true := by kernel_rfl
@[simp] theorem T_z30 : zT Tryz.prog 30 = some [.int .i64 0, .int .i64 0, .int .i64 0, .str ByteArray.empty, .slice 5 true []] := by kernel_rfl
@[simp] theorem T_sz31 : szT Tryz.prog 31 = 5 := by kernel_rfl
@[simp] theorem T_ag31 : aggT Tryz.prog 31 = some true := by kernel_rfl
@[simp] theorem T_el31 : elT Tryz.prog 31 = none := by kernel_rfl
@[simp] theorem T_ar31 : arrT Tryz.prog 31 = none := by kernel_rfl
@[simp] theorem T_by31 : byT Tryz.prog 31 = 64 := by kernel_rfl
@[simp] theorem T_f31_0 : fldT Tryz.prog 31 0 = some (0, 3) := by kernel_rfl
@[simp] theorem T_f31_1 : fldT Tryz.prog 31 1 = some (1, 3) := by kernel_rfl
@[simp] theorem T_f31_2 : fldT Tryz.prog 31 2 = some (2, 3) := by kernel_rfl
@[simp] theorem T_f31_3 : fldT Tryz.prog 31 3 = some (3, 9) := by kernel_rfl
@[simp] theorem T_f31_4 : fldT Tryz.prog 31 4 = some (4, 29) := by kernel_rfl
@[simp] theorem T_if31 : infoAll Tryz.prog 31 = true := by kernel_rfl
@[simp] theorem T_z31 : zT Tryz.prog 31 = some [.int .i64 0, .int .i64 0, .int .i64 0, .str ByteArray.empty, .slice 5 true []] := by kernel_rfl
@[simp] theorem T_sz32 : szT Tryz.prog 32 = 9 := by kernel_rfl
@[simp] theorem T_ag32 : aggT Tryz.prog 32 = some true := by kernel_rfl
@[simp] theorem T_el32 : elT Tryz.prog 32 = none := by kernel_rfl
@[simp] theorem T_ar32 : arrT Tryz.prog 32 = none := by kernel_rfl
@[simp] theorem T_by32 : byT Tryz.prog 32 = 120 := by kernel_rfl
@[simp] theorem T_f32_0 : fldT Tryz.prog 32 0 = some (0, 3) := by kernel_rfl
@[simp] theorem T_f32_1 : fldT Tryz.prog 32 1 = some (1, 31) := by kernel_rfl
@[simp] theorem T_f32_2 : fldT Tryz.prog 32 2 = some (6, 9) := by kernel_rfl
@[simp] theorem T_f32_3 : fldT Tryz.prog 32 3 = some (7, 4) := by kernel_rfl
@[simp] theorem T_f32_4 : fldT Tryz.prog 32 4 = some (8, 28) := by kernel_rfl
@[simp] theorem T_if32 : infoAll Tryz.prog 32 = true := by kernel_rfl
@[simp] theorem T_z32 : zT Tryz.prog 32 = some [.int .i64 0, .int .i64 0, .int .i64 0, .int .i64 0, .str ByteArray.empty, .slice 5 true [], .str ByteArray.empty, .bool false, .slice 9 true []] := by kernel_rfl
@[simp] theorem T_sz33 : szT Tryz.prog 33 = 9 := by kernel_rfl
@[simp] theorem T_ag33 : aggT Tryz.prog 33 = some true := by kernel_rfl
@[simp] theorem T_el33 : elT Tryz.prog 33 = none := by kernel_rfl
@[simp] theorem T_ar33 : arrT Tryz.prog 33 = none := by kernel_rfl
@[simp] theorem T_by33 : byT Tryz.prog 33 = 120 := by kernel_rfl
@[simp] theorem T_f33_0 : fldT Tryz.prog 33 0 = some (0, 3) := by kernel_rfl
@[simp] theorem T_f33_1 : fldT Tryz.prog 33 1 = some (1, 31) := by kernel_rfl
@[simp] theorem T_f33_2 : fldT Tryz.prog 33 2 = some (6, 9) := by kernel_rfl
@[simp] theorem T_f33_3 : fldT Tryz.prog 33 3 = some (7, 4) := by kernel_rfl
@[simp] theorem T_f33_4 : fldT Tryz.prog 33 4 = some (8, 28) := by kernel_rfl
@[simp] theorem T_if33 : infoAll Tryz.prog 33 = true := by kernel_rfl
@[simp] theorem T_z33 : zT Tryz.prog 33 = some [.int .i64 0, .int .i64 0, .int .i64 0, .int .i64 0, .str ByteArray.empty, .slice 5 true [], .str ByteArray.empty, .bool false, .slice 9 true []] := by kernel_rfl
@[simp] theorem T_sz34 : szT Tryz.prog 34 = 1 := by kernel_rfl
@[simp] theorem T_ag34 : aggT Tryz.prog 34 = some false := by kernel_rfl
@[simp] theorem T_el34 : elT Tryz.prog 34 = some 60 := by kernel_rfl
@[simp] theorem T_ar34 : arrT Tryz.prog 34 = none := by kernel_rfl
@[simp] theorem T_st34 : strT Tryz.prog 34 = false := by kernel_rfl
@[simp] theorem T_by34 : byT Tryz.prog 34 = 24 := by kernel_rfl
@[simp] theorem T_z34 : zT Tryz.prog 34 = some [.slice 10 true []] := by kernel_rfl
@[simp] theorem T_sz35 : szT Tryz.prog 35 = 1 := by kernel_rfl
@[simp] theorem T_ag35 : aggT Tryz.prog 35 = some false := by kernel_rfl
@[simp] theorem T_el35 : elT Tryz.prog 35 = some 62 := by kernel_rfl
@[simp] theorem T_ar35 : arrT Tryz.prog 35 = none := by kernel_rfl
@[simp] theorem T_st35 : strT Tryz.prog 35 = false := by kernel_rfl
@[simp] theorem T_by35 : byT Tryz.prog 35 = 24 := by kernel_rfl
@[simp] theorem T_z35 : zT Tryz.prog 35 = some [.slice 10 true []] := by kernel_rfl
@[simp] theorem T_sz36 : szT Tryz.prog 36 = 1 := by kernel_rfl
@[simp] theorem T_ag36 : aggT Tryz.prog 36 = some false := by kernel_rfl
@[simp] theorem T_el36 : elT Tryz.prog 36 = some 64 := by kernel_rfl
@[simp] theorem T_ar36 : arrT Tryz.prog 36 = none := by kernel_rfl
@[simp] theorem T_st36 : strT Tryz.prog 36 = false := by kernel_rfl
@[simp] theorem T_by36 : byT Tryz.prog 36 = 24 := by kernel_rfl
@[simp] theorem T_z36 : zT Tryz.prog 36 = some [.slice 13 true []] := by kernel_rfl
@[simp] theorem T_sz37 : szT Tryz.prog 37 = 1 := by kernel_rfl
@[simp] theorem T_ag37 : aggT Tryz.prog 37 = some false := by kernel_rfl
@[simp] theorem T_el37 : elT Tryz.prog 37 = some 9 := by kernel_rfl
@[simp] theorem T_ar37 : arrT Tryz.prog 37 = none := by kernel_rfl
@[simp] theorem T_st37 : strT Tryz.prog 37 = false := by kernel_rfl
@[simp] theorem T_by37 : byT Tryz.prog 37 = 24 := by kernel_rfl
@[simp] theorem T_z37 : zT Tryz.prog 37 = some [.slice 1 true []] := by kernel_rfl
@[simp] theorem T_sz38 : szT Tryz.prog 38 = 21 := by kernel_rfl
@[simp] theorem T_ag38 : aggT Tryz.prog 38 = some true := by kernel_rfl
@[simp] theorem T_el38 : elT Tryz.prog 38 = none := by kernel_rfl
@[simp] theorem T_ar38 : arrT Tryz.prog 38 = none := by kernel_rfl
@[simp] theorem T_by38 : byT Tryz.prog 38 = 312 := by kernel_rfl
@[simp] theorem T_f38_0 : fldT Tryz.prog 38 0 = some (0, 3) := by kernel_rfl
@[simp] theorem T_f38_1 : fldT Tryz.prog 38 1 = some (1, 4) := by kernel_rfl
@[simp] theorem T_f38_2 : fldT Tryz.prog 38 2 = some (2, 4) := by kernel_rfl
@[simp] theorem T_f38_3 : fldT Tryz.prog 38 3 = some (3, 27) := by kernel_rfl
@[simp] theorem T_f38_4 : fldT Tryz.prog 38 4 = some (4, 28) := by kernel_rfl
@[simp] theorem T_f38_5 : fldT Tryz.prog 38 5 = some (5, 33) := by kernel_rfl
@[simp] theorem T_f38_6 : fldT Tryz.prog 38 6 = some (14, 9) := by kernel_rfl
@[simp] theorem T_f38_7 : fldT Tryz.prog 38 7 = some (15, 34) := by kernel_rfl
@[simp] theorem T_f38_8 : fldT Tryz.prog 38 8 = some (16, 35) := by kernel_rfl
@[simp] theorem T_f38_9 : fldT Tryz.prog 38 9 = some (17, 3) := by kernel_rfl
@[simp] theorem T_f38_10 : fldT Tryz.prog 38 10 = some (18, 3) := by kernel_rfl
@[simp] theorem T_f38_11 : fldT Tryz.prog 38 11 = some (19, 36) := by kernel_rfl
@[simp] theorem T_f38_12 : fldT Tryz.prog 38 12 = some (20, 37) := by kernel_rfl
@[simp] theorem T_if38 : infoAll Tryz.prog 38 = true := by kernel_rfl
@[simp] theorem T_z38 : zT Tryz.prog 38 = some [.int .i64 0, .bool false, .bool false, .slice 3 true [], .slice 9 true [], .int .i64 0, .int .i64 0, .int .i64 0, .int .i64 0, .str ByteArray.empty, .slice 5 true [], .str ByteArray.empty, .bool false, .slice 9 true [], .str ByteArray.empty, .slice 10 true [], .slice 10 true [], .int .i64 0, .int .i64 0, .slice 13 true [], .slice 1 true []] := by kernel_rfl
@[simp] theorem T_sz39 : szT Tryz.prog 39 = 21 := by kernel_rfl
@[simp] theorem T_ag39 : aggT Tryz.prog 39 = some true := by kernel_rfl
@[simp] theorem T_el39 : elT Tryz.prog 39 = none := by kernel_rfl
@[simp] theorem T_ar39 : arrT Tryz.prog 39 = none := by kernel_rfl
@[simp] theorem T_by39 : byT Tryz.prog 39 = 312 := by kernel_rfl
@[simp] theorem T_f39_0 : fldT Tryz.prog 39 0 = some (0, 3) := by kernel_rfl
@[simp] theorem T_f39_1 : fldT Tryz.prog 39 1 = some (1, 4) := by kernel_rfl
@[simp] theorem T_f39_2 : fldT Tryz.prog 39 2 = some (2, 4) := by kernel_rfl
@[simp] theorem T_f39_3 : fldT Tryz.prog 39 3 = some (3, 27) := by kernel_rfl
@[simp] theorem T_f39_4 : fldT Tryz.prog 39 4 = some (4, 28) := by kernel_rfl
@[simp] theorem T_f39_5 : fldT Tryz.prog 39 5 = some (5, 33) := by kernel_rfl
@[simp] theorem T_f39_6 : fldT Tryz.prog 39 6 = some (14, 9) := by kernel_rfl
@[simp] theorem T_f39_7 : fldT Tryz.prog 39 7 = some (15, 34) := by kernel_rfl
@[simp] theorem T_f39_8 : fldT Tryz.prog 39 8 = some (16, 35) := by kernel_rfl
@[simp] theorem T_f39_9 : fldT Tryz.prog 39 9 = some (17, 3) := by kernel_rfl
@[simp] theorem T_f39_10 : fldT Tryz.prog 39 10 = some (18, 3) := by kernel_rfl
@[simp] theorem T_f39_11 : fldT Tryz.prog 39 11 = some (19, 36) := by kernel_rfl
@[simp] theorem T_f39_12 : fldT Tryz.prog 39 12 = some (20, 37) := by kernel_rfl
@[simp] theorem T_if39 : infoAll Tryz.prog 39 = true := by kernel_rfl
@[simp] theorem T_z39 : zT Tryz.prog 39 = some [.int .i64 0, .bool false, .bool false, .slice 3 true [], .slice 9 true [], .int .i64 0, .int .i64 0, .int .i64 0, .int .i64 0, .str ByteArray.empty, .slice 5 true [], .str ByteArray.empty, .bool false, .slice 9 true [], .str ByteArray.empty, .slice 10 true [], .slice 10 true [], .int .i64 0, .int .i64 0, .slice 13 true [], .slice 1 true []] := by kernel_rfl
@[simp] theorem T_sz40 : szT Tryz.prog 40 = 1 := by kernel_rfl
@[simp] theorem T_ag40 : aggT Tryz.prog 40 = some false := by kernel_rfl
@[simp] theorem T_sz41 : szT Tryz.prog 41 = 1 := by kernel_rfl
@[simp] theorem T_ag41 : aggT Tryz.prog 41 = some false := by kernel_rfl
@[simp] theorem T_el41 : elT Tryz.prog 41 = none := by kernel_rfl
@[simp] theorem T_ar41 : arrT Tryz.prog 41 = none := by kernel_rfl
@[simp] theorem T_in41 : intT Tryz.prog 41 = some .i64 := by kernel_rfl
@[simp] theorem T_bo41 : boolT Tryz.prog 41 = false := by kernel_rfl
@[simp] theorem T_bt41 : byteT Tryz.prog 41 = false := by kernel_rfl
@[simp] theorem T_by41 : byT Tryz.prog 41 = 8 := by kernel_rfl
@[simp] theorem T_z41 : zT Tryz.prog 41 = some [.int .i64 0] := by kernel_rfl
@[simp] theorem T_sz42 : szT Tryz.prog 42 = 1 := by kernel_rfl
@[simp] theorem T_ag42 : aggT Tryz.prog 42 = some false := by kernel_rfl
@[simp] theorem T_sz43 : szT Tryz.prog 43 = 1 := by kernel_rfl
@[simp] theorem T_ag43 : aggT Tryz.prog 43 = some false := by kernel_rfl
@[simp] theorem T_sz44 : szT Tryz.prog 44 = 1 := by kernel_rfl
@[simp] theorem T_ag44 : aggT Tryz.prog 44 = some false := by kernel_rfl
@[simp] theorem T_sz45 : szT Tryz.prog 45 = 1 := by kernel_rfl
@[simp] theorem T_ag45 : aggT Tryz.prog 45 = some false := by kernel_rfl
@[simp] theorem T_sz46 : szT Tryz.prog 46 = 1 := by kernel_rfl
@[simp] theorem T_ag46 : aggT Tryz.prog 46 = some false := by kernel_rfl
@[simp] theorem T_el46 : elT Tryz.prog 46 = some 39 := by kernel_rfl
@[simp] theorem T_ar46 : arrT Tryz.prog 46 = none := by kernel_rfl
@[simp] theorem T_st46 : strT Tryz.prog 46 = false := by kernel_rfl
@[simp] theorem T_by46 : byT Tryz.prog 46 = 24 := by kernel_rfl
@[simp] theorem T_z46 : zT Tryz.prog 46 = some [.slice 21 true []] := by kernel_rfl
@[simp] theorem T_sz47 : szT Tryz.prog 47 = 1 := by kernel_rfl
@[simp] theorem T_ag47 : aggT Tryz.prog 47 = some true := by kernel_rfl
@[simp] theorem T_el47 : elT Tryz.prog 47 = none := by kernel_rfl
@[simp] theorem T_ar47 : arrT Tryz.prog 47 = none := by kernel_rfl
@[simp] theorem T_by47 : byT Tryz.prog 47 = 24 := by kernel_rfl
@[simp] theorem T_f47_0 : fldT Tryz.prog 47 0 = some (0, 46) := by kernel_rfl
@[simp] theorem T_if47 : infoAll Tryz.prog 47 = true := by kernel_rfl
@[simp] theorem T_z47 : zT Tryz.prog 47 = some [.slice 21 true []] := by kernel_rfl
@[simp] theorem T_sz48 : szT Tryz.prog 48 = 1 := by kernel_rfl
@[simp] theorem T_ag48 : aggT Tryz.prog 48 = some true := by kernel_rfl
@[simp] theorem T_el48 : elT Tryz.prog 48 = none := by kernel_rfl
@[simp] theorem T_ar48 : arrT Tryz.prog 48 = none := by kernel_rfl
@[simp] theorem T_by48 : byT Tryz.prog 48 = 24 := by kernel_rfl
@[simp] theorem T_f48_0 : fldT Tryz.prog 48 0 = some (0, 46) := by kernel_rfl
@[simp] theorem T_if48 : infoAll Tryz.prog 48 = true := by kernel_rfl
@[simp] theorem T_z48 : zT Tryz.prog 48 = some [.slice 21 true []] := by kernel_rfl
@[simp] theorem T_sz49 : szT Tryz.prog 49 = 1 := by kernel_rfl
@[simp] theorem T_ag49 : aggT Tryz.prog 49 = some false := by kernel_rfl
@[simp] theorem T_sz51 : szT Tryz.prog 51 = 1 := by kernel_rfl
@[simp] theorem T_ag51 : aggT Tryz.prog 51 = some false := by kernel_rfl
@[simp] theorem T_sz52 : szT Tryz.prog 52 = 1 := by kernel_rfl
@[simp] theorem T_ag52 : aggT Tryz.prog 52 = some false := by kernel_rfl
@[simp] theorem T_sz53 : szT Tryz.prog 53 = 1 := by kernel_rfl
@[simp] theorem T_ag53 : aggT Tryz.prog 53 = some false := by kernel_rfl
@[simp] theorem T_sz54 : szT Tryz.prog 54 = 1 := by kernel_rfl
@[simp] theorem T_ag54 : aggT Tryz.prog 54 = some false := by kernel_rfl
@[simp] theorem T_el54 : elT Tryz.prog 54 = some 80 := by kernel_rfl
@[simp] theorem T_ar54 : arrT Tryz.prog 54 = none := by kernel_rfl
@[simp] theorem T_st54 : strT Tryz.prog 54 = false := by kernel_rfl
@[simp] theorem T_by54 : byT Tryz.prog 54 = 24 := by kernel_rfl
@[simp] theorem T_z54 : zT Tryz.prog 54 = some [.slice 10 true []] := by kernel_rfl
@[simp] theorem T_sz55 : szT Tryz.prog 55 = 7 := by kernel_rfl
@[simp] theorem T_ag55 : aggT Tryz.prog 55 = some true := by kernel_rfl
@[simp] theorem T_el55 : elT Tryz.prog 55 = none := by kernel_rfl
@[simp] theorem T_ar55 : arrT Tryz.prog 55 = none := by kernel_rfl
@[simp] theorem T_by55 : byT Tryz.prog 55 = 96 := by kernel_rfl
@[simp] theorem T_f55_0 : fldT Tryz.prog 55 0 = some (0, 9) := by kernel_rfl
@[simp] theorem T_f55_1 : fldT Tryz.prog 55 1 = some (1, 37) := by kernel_rfl
@[simp] theorem T_f55_2 : fldT Tryz.prog 55 2 = some (2, 3) := by kernel_rfl
@[simp] theorem T_f55_3 : fldT Tryz.prog 55 3 = some (3, 3) := by kernel_rfl
@[simp] theorem T_f55_4 : fldT Tryz.prog 55 4 = some (4, 3) := by kernel_rfl
@[simp] theorem T_f55_5 : fldT Tryz.prog 55 5 = some (5, 3) := by kernel_rfl
@[simp] theorem T_f55_6 : fldT Tryz.prog 55 6 = some (6, 54) := by kernel_rfl
@[simp] theorem T_if55 : infoAll Tryz.prog 55 = true := by kernel_rfl
@[simp] theorem T_z55 : zT Tryz.prog 55 = some [.str ByteArray.empty, .slice 1 true [], .int .i64 0, .int .i64 0, .int .i64 0, .int .i64 0, .slice 10 true []] := by kernel_rfl
@[simp] theorem T_sz56 : szT Tryz.prog 56 = 7 := by kernel_rfl
@[simp] theorem T_ag56 : aggT Tryz.prog 56 = some true := by kernel_rfl
@[simp] theorem T_el56 : elT Tryz.prog 56 = none := by kernel_rfl
@[simp] theorem T_ar56 : arrT Tryz.prog 56 = none := by kernel_rfl
@[simp] theorem T_by56 : byT Tryz.prog 56 = 96 := by kernel_rfl
@[simp] theorem T_f56_0 : fldT Tryz.prog 56 0 = some (0, 9) := by kernel_rfl
@[simp] theorem T_f56_1 : fldT Tryz.prog 56 1 = some (1, 37) := by kernel_rfl
@[simp] theorem T_f56_2 : fldT Tryz.prog 56 2 = some (2, 3) := by kernel_rfl
@[simp] theorem T_f56_3 : fldT Tryz.prog 56 3 = some (3, 3) := by kernel_rfl
@[simp] theorem T_f56_4 : fldT Tryz.prog 56 4 = some (4, 3) := by kernel_rfl
@[simp] theorem T_f56_5 : fldT Tryz.prog 56 5 = some (5, 3) := by kernel_rfl
@[simp] theorem T_f56_6 : fldT Tryz.prog 56 6 = some (6, 54) := by kernel_rfl
@[simp] theorem T_if56 : infoAll Tryz.prog 56 = true := by kernel_rfl
@[simp] theorem T_z56 : zT Tryz.prog 56 = some [.str ByteArray.empty, .slice 1 true [], .int .i64 0, .int .i64 0, .int .i64 0, .int .i64 0, .slice 10 true []] := by kernel_rfl
@[simp] theorem T_sz57 : szT Tryz.prog 57 = 3 := by kernel_rfl
@[simp] theorem T_ag57 : aggT Tryz.prog 57 = some true := by kernel_rfl
@[simp] theorem T_el57 : elT Tryz.prog 57 = none := by kernel_rfl
@[simp] theorem T_ar57 : arrT Tryz.prog 57 = none := by kernel_rfl
@[simp] theorem T_by57 : byT Tryz.prog 57 = 64 := by kernel_rfl
@[simp] theorem T_f57_0 : fldT Tryz.prog 57 0 = some (0, 9) := by kernel_rfl
@[simp] theorem T_f57_1 : fldT Tryz.prog 57 1 = some (1, 37) := by kernel_rfl
@[simp] theorem T_f57_2 : fldT Tryz.prog 57 2 = some (2, 54) := by kernel_rfl
@[simp] theorem T_if57 : infoAll Tryz.prog 57 = true := by kernel_rfl
@[simp] theorem T_z57 : zT Tryz.prog 57 = some [.str ByteArray.empty, .slice 1 true [], .slice 10 true []] := by kernel_rfl
@[simp] theorem T_sz58 : szT Tryz.prog 58 = 3 := by kernel_rfl
@[simp] theorem T_ag58 : aggT Tryz.prog 58 = some true := by kernel_rfl
@[simp] theorem T_el58 : elT Tryz.prog 58 = none := by kernel_rfl
@[simp] theorem T_ar58 : arrT Tryz.prog 58 = none := by kernel_rfl
@[simp] theorem T_by58 : byT Tryz.prog 58 = 64 := by kernel_rfl
@[simp] theorem T_f58_0 : fldT Tryz.prog 58 0 = some (0, 9) := by kernel_rfl
@[simp] theorem T_f58_1 : fldT Tryz.prog 58 1 = some (1, 37) := by kernel_rfl
@[simp] theorem T_f58_2 : fldT Tryz.prog 58 2 = some (2, 54) := by kernel_rfl
@[simp] theorem T_if58 : infoAll Tryz.prog 58 = true := by kernel_rfl
@[simp] theorem T_z58 : zT Tryz.prog 58 = some [.str ByteArray.empty, .slice 1 true [], .slice 10 true []] := by kernel_rfl
@[simp] theorem T_sz59 : szT Tryz.prog 59 = 10 := by kernel_rfl
@[simp] theorem T_ag59 : aggT Tryz.prog 59 = some true := by kernel_rfl
@[simp] theorem T_el59 : elT Tryz.prog 59 = none := by kernel_rfl
@[simp] theorem T_ar59 : arrT Tryz.prog 59 = none := by kernel_rfl
@[simp] theorem T_by59 : byT Tryz.prog 59 = 136 := by kernel_rfl
@[simp] theorem T_f59_0 : fldT Tryz.prog 59 0 = some (0, 33) := by kernel_rfl
@[simp] theorem T_f59_1 : fldT Tryz.prog 59 1 = some (9, 9) := by kernel_rfl
@[simp] theorem T_if59 : infoAll Tryz.prog 59 = true := by kernel_rfl
@[simp] theorem T_z59 : zT Tryz.prog 59 = some [.int .i64 0, .int .i64 0, .int .i64 0, .int .i64 0, .str ByteArray.empty, .slice 5 true [], .str ByteArray.empty, .bool false, .slice 9 true [], .str ByteArray.empty] := by kernel_rfl
@[simp] theorem T_sz60 : szT Tryz.prog 60 = 10 := by kernel_rfl
@[simp] theorem T_ag60 : aggT Tryz.prog 60 = some true := by kernel_rfl
@[simp] theorem T_el60 : elT Tryz.prog 60 = none := by kernel_rfl
@[simp] theorem T_ar60 : arrT Tryz.prog 60 = none := by kernel_rfl
@[simp] theorem T_by60 : byT Tryz.prog 60 = 136 := by kernel_rfl
@[simp] theorem T_f60_0 : fldT Tryz.prog 60 0 = some (0, 33) := by kernel_rfl
@[simp] theorem T_f60_1 : fldT Tryz.prog 60 1 = some (9, 9) := by kernel_rfl
@[simp] theorem T_if60 : infoAll Tryz.prog 60 = true := by kernel_rfl
@[simp] theorem T_z60 : zT Tryz.prog 60 = some [.int .i64 0, .int .i64 0, .int .i64 0, .int .i64 0, .str ByteArray.empty, .slice 5 true [], .str ByteArray.empty, .bool false, .slice 9 true [], .str ByteArray.empty] := by kernel_rfl
@[simp] theorem T_sz61 : szT Tryz.prog 61 = 10 := by kernel_rfl
@[simp] theorem T_ag61 : aggT Tryz.prog 61 = some true := by kernel_rfl
@[simp] theorem T_el61 : elT Tryz.prog 61 = none := by kernel_rfl
@[simp] theorem T_ar61 : arrT Tryz.prog 61 = none := by kernel_rfl
@[simp] theorem T_by61 : byT Tryz.prog 61 = 128 := by kernel_rfl
@[simp] theorem T_f61_0 : fldT Tryz.prog 61 0 = some (0, 33) := by kernel_rfl
@[simp] theorem T_f61_1 : fldT Tryz.prog 61 1 = some (9, 4) := by kernel_rfl
@[simp] theorem T_if61 : infoAll Tryz.prog 61 = true := by kernel_rfl
@[simp] theorem T_z61 : zT Tryz.prog 61 = some [.int .i64 0, .int .i64 0, .int .i64 0, .int .i64 0, .str ByteArray.empty, .slice 5 true [], .str ByteArray.empty, .bool false, .slice 9 true [], .bool false] := by kernel_rfl
@[simp] theorem T_sz62 : szT Tryz.prog 62 = 10 := by kernel_rfl
@[simp] theorem T_ag62 : aggT Tryz.prog 62 = some true := by kernel_rfl
@[simp] theorem T_el62 : elT Tryz.prog 62 = none := by kernel_rfl
@[simp] theorem T_ar62 : arrT Tryz.prog 62 = none := by kernel_rfl
@[simp] theorem T_by62 : byT Tryz.prog 62 = 128 := by kernel_rfl
@[simp] theorem T_f62_0 : fldT Tryz.prog 62 0 = some (0, 33) := by kernel_rfl
@[simp] theorem T_f62_1 : fldT Tryz.prog 62 1 = some (9, 4) := by kernel_rfl
@[simp] theorem T_if62 : infoAll Tryz.prog 62 = true := by kernel_rfl
@[simp] theorem T_z62 : zT Tryz.prog 62 = some [.int .i64 0, .int .i64 0, .int .i64 0, .int .i64 0, .str ByteArray.empty, .slice 5 true [], .str ByteArray.empty, .bool false, .slice 9 true [], .bool false] := by kernel_rfl
@[simp] theorem T_sz63 : szT Tryz.prog 63 = 13 := by kernel_rfl
@[simp] theorem T_ag63 : aggT Tryz.prog 63 = some true := by kernel_rfl
@[simp] theorem T_el63 : elT Tryz.prog 63 = none := by kernel_rfl
@[simp] theorem T_ar63 : arrT Tryz.prog 63 = none := by kernel_rfl
@[simp] theorem T_by63 : byT Tryz.prog 63 = 176 := by kernel_rfl
@[simp] theorem T_f63_0 : fldT Tryz.prog 63 0 = some (0, 9) := by kernel_rfl
@[simp] theorem T_f63_1 : fldT Tryz.prog 63 1 = some (1, 9) := by kernel_rfl
@[simp] theorem T_f63_2 : fldT Tryz.prog 63 2 = some (2, 9) := by kernel_rfl
@[simp] theorem T_f63_3 : fldT Tryz.prog 63 3 = some (3, 4) := by kernel_rfl
@[simp] theorem T_f63_4 : fldT Tryz.prog 63 4 = some (4, 33) := by kernel_rfl
@[simp] theorem T_if63 : infoAll Tryz.prog 63 = true := by kernel_rfl
@[simp] theorem T_z63 : zT Tryz.prog 63 = some [.str ByteArray.empty, .str ByteArray.empty, .str ByteArray.empty, .bool false, .int .i64 0, .int .i64 0, .int .i64 0, .int .i64 0, .str ByteArray.empty, .slice 5 true [], .str ByteArray.empty, .bool false, .slice 9 true []] := by kernel_rfl
@[simp] theorem T_sz64 : szT Tryz.prog 64 = 13 := by kernel_rfl
@[simp] theorem T_ag64 : aggT Tryz.prog 64 = some true := by kernel_rfl
@[simp] theorem T_el64 : elT Tryz.prog 64 = none := by kernel_rfl
@[simp] theorem T_ar64 : arrT Tryz.prog 64 = none := by kernel_rfl
@[simp] theorem T_by64 : byT Tryz.prog 64 = 176 := by kernel_rfl
@[simp] theorem T_f64_0 : fldT Tryz.prog 64 0 = some (0, 9) := by kernel_rfl
@[simp] theorem T_f64_1 : fldT Tryz.prog 64 1 = some (1, 9) := by kernel_rfl
@[simp] theorem T_f64_2 : fldT Tryz.prog 64 2 = some (2, 9) := by kernel_rfl
@[simp] theorem T_f64_3 : fldT Tryz.prog 64 3 = some (3, 4) := by kernel_rfl
@[simp] theorem T_f64_4 : fldT Tryz.prog 64 4 = some (4, 33) := by kernel_rfl
@[simp] theorem T_if64 : infoAll Tryz.prog 64 = true := by kernel_rfl
@[simp] theorem T_z64 : zT Tryz.prog 64 = some [.str ByteArray.empty, .str ByteArray.empty, .str ByteArray.empty, .bool false, .int .i64 0, .int .i64 0, .int .i64 0, .int .i64 0, .str ByteArray.empty, .slice 5 true [], .str ByteArray.empty, .bool false, .slice 9 true []] := by kernel_rfl
@[simp] theorem T_sz66 : szT Tryz.prog 66 = 1 := by kernel_rfl
@[simp] theorem T_ag66 : aggT Tryz.prog 66 = some false := by kernel_rfl
@[simp] theorem T_sz67 : szT Tryz.prog 67 = 1 := by kernel_rfl
@[simp] theorem T_ag67 : aggT Tryz.prog 67 = some false := by kernel_rfl
@[simp] theorem T_sz68 : szT Tryz.prog 68 = 1 := by kernel_rfl
@[simp] theorem T_ag68 : aggT Tryz.prog 68 = some false := by kernel_rfl
@[simp] theorem T_sz69 : szT Tryz.prog 69 = 1 := by kernel_rfl
@[simp] theorem T_ag69 : aggT Tryz.prog 69 = some false := by kernel_rfl
@[simp] theorem T_sz70 : szT Tryz.prog 70 = 1 := by kernel_rfl
@[simp] theorem T_ag70 : aggT Tryz.prog 70 = some false := by kernel_rfl
@[simp] theorem T_sz71 : szT Tryz.prog 71 = 1 := by kernel_rfl
@[simp] theorem T_ag71 : aggT Tryz.prog 71 = some false := by kernel_rfl
@[simp] theorem T_sz72 : szT Tryz.prog 72 = 1 := by kernel_rfl
@[simp] theorem T_ag72 : aggT Tryz.prog 72 = some false := by kernel_rfl
@[simp] theorem T_sz73 : szT Tryz.prog 73 = 1 := by kernel_rfl
@[simp] theorem T_ag73 : aggT Tryz.prog 73 = some false := by kernel_rfl
@[simp] theorem T_el73 : elT Tryz.prog 73 = some 76 := by kernel_rfl
@[simp] theorem T_ar73 : arrT Tryz.prog 73 = none := by kernel_rfl
@[simp] theorem T_st73 : strT Tryz.prog 73 = false := by kernel_rfl
@[simp] theorem T_by73 : byT Tryz.prog 73 = 24 := by kernel_rfl
@[simp] theorem T_z73 : zT Tryz.prog 73 = some [.slice 3 true []] := by kernel_rfl
@[simp] theorem T_sz74 : szT Tryz.prog 74 = 1 := by kernel_rfl
@[simp] theorem T_ag74 : aggT Tryz.prog 74 = some false := by kernel_rfl
@[simp] theorem T_sz75 : szT Tryz.prog 75 = 3 := by kernel_rfl
@[simp] theorem T_ag75 : aggT Tryz.prog 75 = some true := by kernel_rfl
@[simp] theorem T_el75 : elT Tryz.prog 75 = none := by kernel_rfl
@[simp] theorem T_ar75 : arrT Tryz.prog 75 = none := by kernel_rfl
@[simp] theorem T_by75 : byT Tryz.prog 75 = 64 := by kernel_rfl
@[simp] theorem T_f75_0 : fldT Tryz.prog 75 0 = some (0, 9) := by kernel_rfl
@[simp] theorem T_f75_1 : fldT Tryz.prog 75 1 = some (1, 37) := by kernel_rfl
@[simp] theorem T_f75_2 : fldT Tryz.prog 75 2 = some (2, 54) := by kernel_rfl
@[simp] theorem T_if75 : infoAll Tryz.prog 75 = true := by kernel_rfl
@[simp] theorem T_z75 : zT Tryz.prog 75 = some [.str ByteArray.empty, .slice 1 true [], .slice 10 true []] := by kernel_rfl
@[simp] theorem T_sz76 : szT Tryz.prog 76 = 3 := by kernel_rfl
@[simp] theorem T_ag76 : aggT Tryz.prog 76 = some true := by kernel_rfl
@[simp] theorem T_el76 : elT Tryz.prog 76 = none := by kernel_rfl
@[simp] theorem T_ar76 : arrT Tryz.prog 76 = none := by kernel_rfl
@[simp] theorem T_by76 : byT Tryz.prog 76 = 64 := by kernel_rfl
@[simp] theorem T_f76_0 : fldT Tryz.prog 76 0 = some (0, 9) := by kernel_rfl
@[simp] theorem T_f76_1 : fldT Tryz.prog 76 1 = some (1, 37) := by kernel_rfl
@[simp] theorem T_f76_2 : fldT Tryz.prog 76 2 = some (2, 54) := by kernel_rfl
@[simp] theorem T_if76 : infoAll Tryz.prog 76 = true := by kernel_rfl
@[simp] theorem T_z76 : zT Tryz.prog 76 = some [.str ByteArray.empty, .slice 1 true [], .slice 10 true []] := by kernel_rfl
@[simp] theorem T_sz77 : szT Tryz.prog 77 = 1 := by kernel_rfl
@[simp] theorem T_ag77 : aggT Tryz.prog 77 = some false := by kernel_rfl
@[simp] theorem T_sz78 : szT Tryz.prog 78 = 1 := by kernel_rfl
@[simp] theorem T_ag78 : aggT Tryz.prog 78 = some false := by kernel_rfl
@[simp] theorem T_sz79 : szT Tryz.prog 79 = 10 := by kernel_rfl
@[simp] theorem T_ag79 : aggT Tryz.prog 79 = some true := by kernel_rfl
@[simp] theorem T_el79 : elT Tryz.prog 79 = none := by kernel_rfl
@[simp] theorem T_ar79 : arrT Tryz.prog 79 = none := by kernel_rfl
@[simp] theorem T_by79 : byT Tryz.prog 79 = 136 := by kernel_rfl
@[simp] theorem T_f79_0 : fldT Tryz.prog 79 0 = some (0, 9) := by kernel_rfl
@[simp] theorem T_f79_1 : fldT Tryz.prog 79 1 = some (1, 33) := by kernel_rfl
@[simp] theorem T_if79 : infoAll Tryz.prog 79 = true := by kernel_rfl
@[simp] theorem T_z79 : zT Tryz.prog 79 = some [.str ByteArray.empty, .int .i64 0, .int .i64 0, .int .i64 0, .int .i64 0, .str ByteArray.empty, .slice 5 true [], .str ByteArray.empty, .bool false, .slice 9 true []] := by kernel_rfl
@[simp] theorem T_sz80 : szT Tryz.prog 80 = 10 := by kernel_rfl
@[simp] theorem T_ag80 : aggT Tryz.prog 80 = some true := by kernel_rfl
@[simp] theorem T_el80 : elT Tryz.prog 80 = none := by kernel_rfl
@[simp] theorem T_ar80 : arrT Tryz.prog 80 = none := by kernel_rfl
@[simp] theorem T_by80 : byT Tryz.prog 80 = 136 := by kernel_rfl
@[simp] theorem T_f80_0 : fldT Tryz.prog 80 0 = some (0, 9) := by kernel_rfl
@[simp] theorem T_f80_1 : fldT Tryz.prog 80 1 = some (1, 33) := by kernel_rfl
@[simp] theorem T_if80 : infoAll Tryz.prog 80 = true := by kernel_rfl
@[simp] theorem T_z80 : zT Tryz.prog 80 = some [.str ByteArray.empty, .int .i64 0, .int .i64 0, .int .i64 0, .int .i64 0, .str ByteArray.empty, .slice 5 true [], .str ByteArray.empty, .bool false, .slice 9 true []] := by kernel_rfl
@[simp] theorem T_sz81 : szT Tryz.prog 81 = 1 := by kernel_rfl
@[simp] theorem T_ag81 : aggT Tryz.prog 81 = some false := by kernel_rfl
@[simp] theorem T_sz82 : szT Tryz.prog 82 = 1 := by kernel_rfl
@[simp] theorem T_ag82 : aggT Tryz.prog 82 = some true := by kernel_rfl
@[simp] theorem T_el82 : elT Tryz.prog 82 = none := by kernel_rfl
@[simp] theorem T_ar82 : arrT Tryz.prog 82 = none := by kernel_rfl
@[simp] theorem T_by82 : byT Tryz.prog 82 = 8 := by kernel_rfl
@[simp] theorem T_f82_0 : fldT Tryz.prog 82 0 = some (0, 41) := by kernel_rfl
@[simp] theorem T_if82 : infoAll Tryz.prog 82 = true := by kernel_rfl
@[simp] theorem T_z82 : zT Tryz.prog 82 = some [.int .i64 0] := by kernel_rfl
@[simp] theorem T_sz83 : szT Tryz.prog 83 = 1 := by kernel_rfl
@[simp] theorem T_ag83 : aggT Tryz.prog 83 = some true := by kernel_rfl
@[simp] theorem T_el83 : elT Tryz.prog 83 = none := by kernel_rfl
@[simp] theorem T_ar83 : arrT Tryz.prog 83 = none := by kernel_rfl
@[simp] theorem T_by83 : byT Tryz.prog 83 = 8 := by kernel_rfl
@[simp] theorem T_f83_0 : fldT Tryz.prog 83 0 = some (0, 41) := by kernel_rfl
@[simp] theorem T_fl83 : flatT Tryz.prog 83 = some [.i] := by kernel_rfl
@[simp] theorem T_if83 : infoAll Tryz.prog 83 = true := by kernel_rfl
@[simp] theorem T_z83 : zT Tryz.prog 83 = some [.int .i64 0] := by kernel_rfl
@[simp] theorem T_sz84 : szT Tryz.prog 84 = 1 := by kernel_rfl
@[simp] theorem T_ag84 : aggT Tryz.prog 84 = some false := by kernel_rfl
@[simp] theorem T_sz85 : szT Tryz.prog 85 = 1 := by kernel_rfl
@[simp] theorem T_ag85 : aggT Tryz.prog 85 = some false := by kernel_rfl
@[simp] theorem T_sz86 : szT Tryz.prog 86 = 1 := by kernel_rfl
@[simp] theorem T_ag86 : aggT Tryz.prog 86 = some false := by kernel_rfl
@[simp] theorem T_sz87 : szT Tryz.prog 87 = 1 := by kernel_rfl
@[simp] theorem T_ag87 : aggT Tryz.prog 87 = some false := by kernel_rfl
@[simp] theorem T_sz88 : szT Tryz.prog 88 = 1 := by kernel_rfl
@[simp] theorem T_ag88 : aggT Tryz.prog 88 = some false := by kernel_rfl
@[simp] theorem T_sz89 : szT Tryz.prog 89 = 1 := by kernel_rfl
@[simp] theorem T_ag89 : aggT Tryz.prog 89 = some false := by kernel_rfl
@[simp] theorem T_sz90 : szT Tryz.prog 90 = 1 := by kernel_rfl
@[simp] theorem T_ag90 : aggT Tryz.prog 90 = some false := by kernel_rfl
@[simp] theorem T_sz91 : szT Tryz.prog 91 = 1 := by kernel_rfl
@[simp] theorem T_ag91 : aggT Tryz.prog 91 = some false := by kernel_rfl
@[simp] theorem T_sz92 : szT Tryz.prog 92 = 1 := by kernel_rfl
@[simp] theorem T_ag92 : aggT Tryz.prog 92 = some false := by kernel_rfl
@[simp] theorem T_el92 : elT Tryz.prog 92 = some 3 := by kernel_rfl
@[simp] theorem T_ar92 : arrT Tryz.prog 92 = none := by kernel_rfl
@[simp] theorem T_st92 : strT Tryz.prog 92 = false := by kernel_rfl
@[simp] theorem T_by92 : byT Tryz.prog 92 = 24 := by kernel_rfl
@[simp] theorem T_z92 : zT Tryz.prog 92 = some [.slice 1 true []] := by kernel_rfl
@[simp] theorem T_sz93 : szT Tryz.prog 93 = 1 := by kernel_rfl
@[simp] theorem T_ag93 : aggT Tryz.prog 93 = some false := by kernel_rfl
@[simp] theorem T_sz94 : szT Tryz.prog 94 = 1 := by kernel_rfl
@[simp] theorem T_ag94 : aggT Tryz.prog 94 = some false := by kernel_rfl
@[simp] theorem T_sz95 : szT Tryz.prog 95 = 1 := by kernel_rfl
@[simp] theorem T_ag95 : aggT Tryz.prog 95 = some false := by kernel_rfl
@[simp] theorem T_sz96 : szT Tryz.prog 96 = 1 := by kernel_rfl
@[simp] theorem T_ag96 : aggT Tryz.prog 96 = some false := by kernel_rfl
@[simp] theorem T_sz97 : szT Tryz.prog 97 = 1 := by kernel_rfl
@[simp] theorem T_ag97 : aggT Tryz.prog 97 = some false := by kernel_rfl
@[simp] theorem T_el97 : elT Tryz.prog 97 = none := by kernel_rfl
@[simp] theorem T_ar97 : arrT Tryz.prog 97 = none := by kernel_rfl
@[simp] theorem T_st97 : strT Tryz.prog 97 = false := by kernel_rfl
@[simp] theorem T_pt97 : ptrT Tryz.prog 97 = true := by kernel_rfl
@[simp] theorem T_by97 : byT Tryz.prog 97 = 8 := by kernel_rfl
@[simp] theorem T_z97 : zT Tryz.prog 97 = some [.nilptr] := by kernel_rfl
@[simp] theorem T_sz98 : szT Tryz.prog 98 = 1 := by kernel_rfl
@[simp] theorem T_ag98 : aggT Tryz.prog 98 = some false := by kernel_rfl
@[simp] theorem T_sz99 : szT Tryz.prog 99 = 1 := by kernel_rfl
@[simp] theorem T_ag99 : aggT Tryz.prog 99 = some false := by kernel_rfl
@[simp] theorem T_sz100 : szT Tryz.prog 100 = 1 := by kernel_rfl
@[simp] theorem T_ag100 : aggT Tryz.prog 100 = some false := by kernel_rfl
@[simp] theorem T_sz101 : szT Tryz.prog 101 = 1 := by kernel_rfl
@[simp] theorem T_ag101 : aggT Tryz.prog 101 = some false := by kernel_rfl
@[simp] theorem T_sz102 : szT Tryz.prog 102 = 1 := by kernel_rfl
@[simp] theorem T_ag102 : aggT Tryz.prog 102 = some false := by kernel_rfl
@[simp] theorem T_sz103 : szT Tryz.prog 103 = 1 := by kernel_rfl
@[simp] theorem T_ag103 : aggT Tryz.prog 103 = some false := by kernel_rfl
@[simp] theorem T_sz104 : szT Tryz.prog 104 = 1 := by kernel_rfl
@[simp] theorem T_ag104 : aggT Tryz.prog 104 = some false := by kernel_rfl
@[simp] theorem T_sz105 : szT Tryz.prog 105 = 1 := by kernel_rfl
@[simp] theorem T_ag105 : aggT Tryz.prog 105 = some false := by kernel_rfl
@[simp] theorem T_sz106 : szT Tryz.prog 106 = 1 := by kernel_rfl
@[simp] theorem T_ag106 : aggT Tryz.prog 106 = some false := by kernel_rfl
@[simp] theorem T_sz107 : szT Tryz.prog 107 = 1 := by kernel_rfl
@[simp] theorem T_ag107 : aggT Tryz.prog 107 = some false := by kernel_rfl
@[simp] theorem T_el107 : elT Tryz.prog 107 = some 5 := by kernel_rfl
@[simp] theorem T_ar107 : arrT Tryz.prog 107 = none := by kernel_rfl
@[simp] theorem T_st107 : strT Tryz.prog 107 = false := by kernel_rfl
@[simp] theorem T_by107 : byT Tryz.prog 107 = 24 := by kernel_rfl
@[simp] theorem T_z107 : zT Tryz.prog 107 = some [.slice 1 true []] := by kernel_rfl
@[simp] theorem T_sz108 : szT Tryz.prog 108 = 1 := by kernel_rfl
@[simp] theorem T_ag108 : aggT Tryz.prog 108 = some false := by kernel_rfl
@[simp] theorem T_sz109 : szT Tryz.prog 109 = 1 := by kernel_rfl
@[simp] theorem T_ag109 : aggT Tryz.prog 109 = some false := by kernel_rfl
@[simp] theorem T_sz110 : szT Tryz.prog 110 = 1 := by kernel_rfl
@[simp] theorem T_ag110 : aggT Tryz.prog 110 = some false := by kernel_rfl
@[simp] theorem T_sz111 : szT Tryz.prog 111 = 2 := by kernel_rfl
@[simp] theorem T_ag111 : aggT Tryz.prog 111 = some true := by kernel_rfl
@[simp] theorem T_el111 : elT Tryz.prog 111 = none := by kernel_rfl
@[simp] theorem T_ar111 : arrT Tryz.prog 111 = none := by kernel_rfl
@[simp] theorem T_by111 : byT Tryz.prog 111 = 16 := by kernel_rfl
@[simp] theorem T_f111_0 : fldT Tryz.prog 111 0 = some (0, 3) := by kernel_rfl
@[simp] theorem T_f111_1 : fldT Tryz.prog 111 1 = some (1, 3) := by kernel_rfl
@[simp] theorem T_if111 : infoAll Tryz.prog 111 = true := by kernel_rfl
@[simp] theorem T_z111 : zT Tryz.prog 111 = some [.int .i64 0, .int .i64 0] := by kernel_rfl
@[simp] theorem T_sz112 : szT Tryz.prog 112 = 2 := by kernel_rfl
@[simp] theorem T_ag112 : aggT Tryz.prog 112 = some true := by kernel_rfl
@[simp] theorem T_el112 : elT Tryz.prog 112 = none := by kernel_rfl
@[simp] theorem T_ar112 : arrT Tryz.prog 112 = none := by kernel_rfl
@[simp] theorem T_by112 : byT Tryz.prog 112 = 16 := by kernel_rfl
@[simp] theorem T_f112_0 : fldT Tryz.prog 112 0 = some (0, 3) := by kernel_rfl
@[simp] theorem T_f112_1 : fldT Tryz.prog 112 1 = some (1, 3) := by kernel_rfl
@[simp] theorem T_fl112 : flatT Tryz.prog 112 = some [.i, .i] := by kernel_rfl
@[simp] theorem T_if112 : infoAll Tryz.prog 112 = true := by kernel_rfl
@[simp] theorem T_z112 : zT Tryz.prog 112 = some [.int .i64 0, .int .i64 0] := by kernel_rfl
@[simp] theorem T_sz113 : szT Tryz.prog 113 = 1 := by kernel_rfl
@[simp] theorem T_ag113 : aggT Tryz.prog 113 = some false := by kernel_rfl
@[simp] theorem T_sz114 : szT Tryz.prog 114 = 1 := by kernel_rfl
@[simp] theorem T_ag114 : aggT Tryz.prog 114 = some false := by kernel_rfl
@[simp] theorem T_sz115 : szT Tryz.prog 115 = 1 := by kernel_rfl
@[simp] theorem T_ag115 : aggT Tryz.prog 115 = some false := by kernel_rfl
@[simp] theorem T_sz116 : szT Tryz.prog 116 = 1 := by kernel_rfl
@[simp] theorem T_ag116 : aggT Tryz.prog 116 = some false := by kernel_rfl
@[simp] theorem T_sz117 : szT Tryz.prog 117 = 1 := by kernel_rfl
@[simp] theorem T_ag117 : aggT Tryz.prog 117 = some false := by kernel_rfl
@[simp] theorem T_sz118 : szT Tryz.prog 118 = 1 := by kernel_rfl
@[simp] theorem T_ag118 : aggT Tryz.prog 118 = some false := by kernel_rfl
@[simp] theorem T_el118 : elT Tryz.prog 118 = none := by kernel_rfl
@[simp] theorem T_ar118 : arrT Tryz.prog 118 = none := by kernel_rfl
@[simp] theorem T_in118 : intT Tryz.prog 118 = some .u64 := by kernel_rfl
@[simp] theorem T_bo118 : boolT Tryz.prog 118 = false := by kernel_rfl
@[simp] theorem T_bt118 : byteT Tryz.prog 118 = false := by kernel_rfl
@[simp] theorem T_by118 : byT Tryz.prog 118 = 8 := by kernel_rfl
@[simp] theorem T_z118 : zT Tryz.prog 118 = some [.int .u64 0] := by kernel_rfl
@[simp] theorem T_sz119 : szT Tryz.prog 119 = 1 := by kernel_rfl
@[simp] theorem T_ag119 : aggT Tryz.prog 119 = some false := by kernel_rfl
@[simp] theorem T_sz120 : szT Tryz.prog 120 = 1 := by kernel_rfl
@[simp] theorem T_ag120 : aggT Tryz.prog 120 = some false := by kernel_rfl
@[simp] theorem T_sz121 : szT Tryz.prog 121 = 1 := by kernel_rfl
@[simp] theorem T_ag121 : aggT Tryz.prog 121 = some false := by kernel_rfl
@[simp] theorem T_sz122 : szT Tryz.prog 122 = 1 := by kernel_rfl
@[simp] theorem T_ag122 : aggT Tryz.prog 122 = some false := by kernel_rfl
@[simp] theorem T_sz123 : szT Tryz.prog 123 = 1 := by kernel_rfl
@[simp] theorem T_ag123 : aggT Tryz.prog 123 = some false := by kernel_rfl
@[simp] theorem T_el123 : elT Tryz.prog 123 = none := by kernel_rfl
@[simp] theorem T_ar123 : arrT Tryz.prog 123 = none := by kernel_rfl
@[simp] theorem T_in123 : intT Tryz.prog 123 = some .u32 := by kernel_rfl
@[simp] theorem T_bo123 : boolT Tryz.prog 123 = false := by kernel_rfl
@[simp] theorem T_bt123 : byteT Tryz.prog 123 = false := by kernel_rfl
@[simp] theorem T_by123 : byT Tryz.prog 123 = 4 := by kernel_rfl
@[simp] theorem T_z123 : zT Tryz.prog 123 = some [.int .u32 0] := by kernel_rfl
@[simp] theorem T_sz125 : szT Tryz.prog 125 = 1 := by kernel_rfl
@[simp] theorem T_ag125 : aggT Tryz.prog 125 = some false := by kernel_rfl
@[simp] theorem T_sz126 : szT Tryz.prog 126 = 1 := by kernel_rfl
@[simp] theorem T_ag126 : aggT Tryz.prog 126 = some false := by kernel_rfl
@[simp] theorem T_sz127 : szT Tryz.prog 127 = 4 := by kernel_rfl
@[simp] theorem T_ag127 : aggT Tryz.prog 127 = some true := by kernel_rfl
@[simp] theorem T_el127 : elT Tryz.prog 127 = none := by kernel_rfl
@[simp] theorem T_ar127 : arrT Tryz.prog 127 = none := by kernel_rfl
@[simp] theorem T_by127 : byT Tryz.prog 127 = 40 := by kernel_rfl
@[simp] theorem T_f127_0 : fldT Tryz.prog 127 0 = some (0, 17) := by kernel_rfl
@[simp] theorem T_f127_1 : fldT Tryz.prog 127 1 = some (1, 17) := by kernel_rfl
@[simp] theorem T_f127_2 : fldT Tryz.prog 127 2 = some (2, 17) := by kernel_rfl
@[simp] theorem T_f127_3 : fldT Tryz.prog 127 3 = some (3, 9) := by kernel_rfl
@[simp] theorem T_if127 : infoAll Tryz.prog 127 = true := by kernel_rfl
@[simp] theorem T_z127 : zT Tryz.prog 127 = some [.nilptr, .nilptr, .nilptr, .str ByteArray.empty] := by kernel_rfl
@[simp] theorem T_sz128 : szT Tryz.prog 128 = 4 := by kernel_rfl
@[simp] theorem T_ag128 : aggT Tryz.prog 128 = some true := by kernel_rfl
@[simp] theorem T_el128 : elT Tryz.prog 128 = none := by kernel_rfl
@[simp] theorem T_ar128 : arrT Tryz.prog 128 = none := by kernel_rfl
@[simp] theorem T_by128 : byT Tryz.prog 128 = 40 := by kernel_rfl
@[simp] theorem T_f128_0 : fldT Tryz.prog 128 0 = some (0, 17) := by kernel_rfl
@[simp] theorem T_f128_1 : fldT Tryz.prog 128 1 = some (1, 17) := by kernel_rfl
@[simp] theorem T_f128_2 : fldT Tryz.prog 128 2 = some (2, 17) := by kernel_rfl
@[simp] theorem T_f128_3 : fldT Tryz.prog 128 3 = some (3, 9) := by kernel_rfl
@[simp] theorem T_if128 : infoAll Tryz.prog 128 = true := by kernel_rfl
@[simp] theorem T_z128 : zT Tryz.prog 128 = some [.nilptr, .nilptr, .nilptr, .str ByteArray.empty] := by kernel_rfl
@[simp] theorem T_sz129 : szT Tryz.prog 129 = 0 := by kernel_rfl
@[simp] theorem T_ag129 : aggT Tryz.prog 129 = some true := by kernel_rfl
@[simp] theorem T_el129 : elT Tryz.prog 129 = none := by kernel_rfl
@[simp] theorem T_ar129 : arrT Tryz.prog 129 = some (0, 16) := by kernel_rfl
@[simp] theorem T_st129 : strT Tryz.prog 129 = false := by kernel_rfl
@[simp] theorem T_by129 : byT Tryz.prog 129 = 0 := by kernel_rfl
@[simp] theorem T_sz130 : szT Tryz.prog 130 = 0 := by kernel_rfl
@[simp] theorem T_ag130 : aggT Tryz.prog 130 = some true := by kernel_rfl
@[simp] theorem T_el130 : elT Tryz.prog 130 = none := by kernel_rfl
@[simp] theorem T_ar130 : arrT Tryz.prog 130 = none := by kernel_rfl
@[simp] theorem T_by130 : byT Tryz.prog 130 = 0 := by kernel_rfl
@[simp] theorem T_f130_0 : fldT Tryz.prog 130 0 = some (0, 129) := by kernel_rfl
@[simp] theorem T_if130 : infoAll Tryz.prog 130 = true := by kernel_rfl
@[simp] theorem T_sz131 : szT Tryz.prog 131 = 0 := by kernel_rfl
@[simp] theorem T_ag131 : aggT Tryz.prog 131 = some true := by kernel_rfl
@[simp] theorem T_el131 : elT Tryz.prog 131 = none := by kernel_rfl
@[simp] theorem T_ar131 : arrT Tryz.prog 131 = none := by kernel_rfl
@[simp] theorem T_by131 : byT Tryz.prog 131 = 0 := by kernel_rfl
@[simp] theorem T_f131_0 : fldT Tryz.prog 131 0 = some (0, 129) := by kernel_rfl
@[simp] theorem T_if131 : infoAll Tryz.prog 131 = true := by kernel_rfl
@[simp] theorem T_sz132 : szT Tryz.prog 132 = 1 := by kernel_rfl
@[simp] theorem T_ag132 : aggT Tryz.prog 132 = some false := by kernel_rfl
@[simp] theorem T_sz133 : szT Tryz.prog 133 = 1 := by kernel_rfl
@[simp] theorem T_ag133 : aggT Tryz.prog 133 = some false := by kernel_rfl
@[simp] theorem T_el133 : elT Tryz.prog 133 = none := by kernel_rfl
@[simp] theorem T_ar133 : arrT Tryz.prog 133 = none := by kernel_rfl
@[simp] theorem T_in133 : intT Tryz.prog 133 = some .u8 := by kernel_rfl
@[simp] theorem T_bo133 : boolT Tryz.prog 133 = false := by kernel_rfl
@[simp] theorem T_bt133 : byteT Tryz.prog 133 = true := by kernel_rfl
@[simp] theorem T_by133 : byT Tryz.prog 133 = 1 := by kernel_rfl
@[simp] theorem T_z133 : zT Tryz.prog 133 = some [.int .u8 0] := by kernel_rfl
@[simp] theorem T_sz134 : szT Tryz.prog 134 = 1 := by kernel_rfl
@[simp] theorem T_ag134 : aggT Tryz.prog 134 = some false := by kernel_rfl
@[simp] theorem T_el134 : elT Tryz.prog 134 = none := by kernel_rfl
@[simp] theorem T_ar134 : arrT Tryz.prog 134 = none := by kernel_rfl
@[simp] theorem T_in134 : intT Tryz.prog 134 = some .u8 := by kernel_rfl
@[simp] theorem T_bo134 : boolT Tryz.prog 134 = false := by kernel_rfl
@[simp] theorem T_bt134 : byteT Tryz.prog 134 = true := by kernel_rfl
@[simp] theorem T_by134 : byT Tryz.prog 134 = 1 := by kernel_rfl
@[simp] theorem T_z134 : zT Tryz.prog 134 = some [.int .u8 0] := by kernel_rfl
@[simp] theorem T_sz135 : szT Tryz.prog 135 = 1 := by kernel_rfl
@[simp] theorem T_ag135 : aggT Tryz.prog 135 = some false := by kernel_rfl
@[simp] theorem T_sz136 : szT Tryz.prog 136 = 1 := by kernel_rfl
@[simp] theorem T_ag136 : aggT Tryz.prog 136 = some false := by kernel_rfl
@[simp] theorem T_el136 : elT Tryz.prog 136 = none := by kernel_rfl
@[simp] theorem T_ar136 : arrT Tryz.prog 136 = none := by kernel_rfl
@[simp] theorem T_st136 : strT Tryz.prog 136 = false := by kernel_rfl
@[simp] theorem T_pt136 : ptrT Tryz.prog 136 = true := by kernel_rfl
@[simp] theorem T_by136 : byT Tryz.prog 136 = 8 := by kernel_rfl
@[simp] theorem T_z136 : zT Tryz.prog 136 = some [.nilptr] := by kernel_rfl
@[simp] theorem T_sz137 : szT Tryz.prog 137 = 1 := by kernel_rfl
@[simp] theorem T_ag137 : aggT Tryz.prog 137 = some false := by kernel_rfl
@[simp] theorem T_el137 : elT Tryz.prog 137 = none := by kernel_rfl
@[simp] theorem T_ar137 : arrT Tryz.prog 137 = none := by kernel_rfl
@[simp] theorem T_in137 : intT Tryz.prog 137 = some .i32 := by kernel_rfl
@[simp] theorem T_bo137 : boolT Tryz.prog 137 = false := by kernel_rfl
@[simp] theorem T_bt137 : byteT Tryz.prog 137 = false := by kernel_rfl
@[simp] theorem T_by137 : byT Tryz.prog 137 = 4 := by kernel_rfl
@[simp] theorem T_z137 : zT Tryz.prog 137 = some [.int .i32 0] := by kernel_rfl
@[simp] theorem T_sz138 : szT Tryz.prog 138 = 1 := by kernel_rfl
@[simp] theorem T_ag138 : aggT Tryz.prog 138 = some false := by kernel_rfl
@[simp] theorem T_el138 : elT Tryz.prog 138 = none := by kernel_rfl
@[simp] theorem T_ar138 : arrT Tryz.prog 138 = none := by kernel_rfl
@[simp] theorem T_in138 : intT Tryz.prog 138 = some .i32 := by kernel_rfl
@[simp] theorem T_bo138 : boolT Tryz.prog 138 = false := by kernel_rfl
@[simp] theorem T_bt138 : byteT Tryz.prog 138 = false := by kernel_rfl
@[simp] theorem T_by138 : byT Tryz.prog 138 = 4 := by kernel_rfl
@[simp] theorem T_z138 : zT Tryz.prog 138 = some [.int .i32 0] := by kernel_rfl
@[simp] theorem T_sz139 : szT Tryz.prog 139 = 11 := by kernel_rfl
@[simp] theorem T_ag139 : aggT Tryz.prog 139 = some true := by kernel_rfl
@[simp] theorem T_el139 : elT Tryz.prog 139 = none := by kernel_rfl
@[simp] theorem T_ar139 : arrT Tryz.prog 139 = none := by kernel_rfl
@[simp] theorem T_by139 : byT Tryz.prog 139 = 48 := by kernel_rfl
@[simp] theorem T_f139_0 : fldT Tryz.prog 139 0 = some (0, 12) := by kernel_rfl
@[simp] theorem T_f139_1 : fldT Tryz.prog 139 1 = some (1, 12) := by kernel_rfl
@[simp] theorem T_f139_2 : fldT Tryz.prog 139 2 = some (2, 123) := by kernel_rfl
@[simp] theorem T_f139_3 : fldT Tryz.prog 139 3 = some (3, 133) := by kernel_rfl
@[simp] theorem T_f139_4 : fldT Tryz.prog 139 4 = some (4, 5) := by kernel_rfl
@[simp] theorem T_f139_5 : fldT Tryz.prog 139 5 = some (5, 5) := by kernel_rfl
@[simp] theorem T_f139_6 : fldT Tryz.prog 139 6 = some (6, 134) := by kernel_rfl
@[simp] theorem T_f139_7 : fldT Tryz.prog 139 7 = some (7, 135) := by kernel_rfl
@[simp] theorem T_f139_8 : fldT Tryz.prog 139 8 = some (8, 136) := by kernel_rfl
@[simp] theorem T_f139_9 : fldT Tryz.prog 139 9 = some (9, 137) := by kernel_rfl
@[simp] theorem T_f139_10 : fldT Tryz.prog 139 10 = some (10, 138) := by kernel_rfl
@[simp] theorem T_if139 : infoAll Tryz.prog 139 = true := by kernel_rfl
@[simp] theorem T_sz140 : szT Tryz.prog 140 = 11 := by kernel_rfl
@[simp] theorem T_ag140 : aggT Tryz.prog 140 = some true := by kernel_rfl
@[simp] theorem T_el140 : elT Tryz.prog 140 = none := by kernel_rfl
@[simp] theorem T_ar140 : arrT Tryz.prog 140 = none := by kernel_rfl
@[simp] theorem T_by140 : byT Tryz.prog 140 = 48 := by kernel_rfl
@[simp] theorem T_f140_0 : fldT Tryz.prog 140 0 = some (0, 12) := by kernel_rfl
@[simp] theorem T_f140_1 : fldT Tryz.prog 140 1 = some (1, 12) := by kernel_rfl
@[simp] theorem T_f140_2 : fldT Tryz.prog 140 2 = some (2, 123) := by kernel_rfl
@[simp] theorem T_f140_3 : fldT Tryz.prog 140 3 = some (3, 133) := by kernel_rfl
@[simp] theorem T_f140_4 : fldT Tryz.prog 140 4 = some (4, 5) := by kernel_rfl
@[simp] theorem T_f140_5 : fldT Tryz.prog 140 5 = some (5, 5) := by kernel_rfl
@[simp] theorem T_f140_6 : fldT Tryz.prog 140 6 = some (6, 134) := by kernel_rfl
@[simp] theorem T_f140_7 : fldT Tryz.prog 140 7 = some (7, 135) := by kernel_rfl
@[simp] theorem T_f140_8 : fldT Tryz.prog 140 8 = some (8, 136) := by kernel_rfl
@[simp] theorem T_f140_9 : fldT Tryz.prog 140 9 = some (9, 137) := by kernel_rfl
@[simp] theorem T_f140_10 : fldT Tryz.prog 140 10 = some (10, 138) := by kernel_rfl
@[simp] theorem T_if140 : infoAll Tryz.prog 140 = true := by kernel_rfl

theorem mixed : Tryz.prog.follows .mixedOrders = true := by kernel_rfl

end Go.Proofs.YthcfnaglgoaikaaGreat
