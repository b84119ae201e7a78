/-
  What the operations ask of the types of this program. Printed by wip/types.py.
-/
import Derived.Test.YtogepfcmmmokdaaAmE
import Derived.Test.YtogepfcmmmokdaaChecked
namespace Go.Proofs.Ytogepfcmmmokdaa
open Go.RowKit
set_option maxRecDepth 100000

@[simp] theorem T_sz1 : szT Try.prog 1 = 1 := by kernel_rfl
@[simp] theorem T_ag1 : aggT Try.prog 1 = some false := by kernel_rfl
@[simp] theorem T_sz2 : szT Try.prog 2 = 1 := by kernel_rfl
@[simp] theorem T_ag2 : aggT Try.prog 2 = some false := by kernel_rfl
@[simp] theorem T_el2 : elT Try.prog 2 = none := by kernel_rfl
@[simp] theorem T_ar2 : arrT Try.prog 2 = none := by kernel_rfl
@[simp] theorem T_in2 : intT Try.prog 2 = some .i64 := by kernel_rfl
@[simp] theorem T_bo2 : boolT Try.prog 2 = false := by kernel_rfl
@[simp] theorem T_bt2 : byteT Try.prog 2 = false := by kernel_rfl
@[simp] theorem T_by2 : byT Try.prog 2 = 8 := by kernel_rfl
@[simp] theorem T_z2 : zT Try.prog 2 = some [.int .i64 0] := by kernel_rfl
@[simp] theorem T_sz3 : szT Try.prog 3 = 1 := by kernel_rfl
@[simp] theorem T_ag3 : aggT Try.prog 3 = some false := by kernel_rfl
@[simp] theorem T_el3 : elT Try.prog 3 = none := by kernel_rfl
@[simp] theorem T_ar3 : arrT Try.prog 3 = none := by kernel_rfl
@[simp] theorem T_in3 : intT Try.prog 3 = some .i64 := by kernel_rfl
@[simp] theorem T_bo3 : boolT Try.prog 3 = false := by kernel_rfl
@[simp] theorem T_bt3 : byteT Try.prog 3 = false := by kernel_rfl
@[simp] theorem T_by3 : byT Try.prog 3 = 8 := by kernel_rfl
@[simp] theorem T_z3 : zT Try.prog 3 = some [.int .i64 0] := by kernel_rfl
@[simp] theorem T_sz4 : szT Try.prog 4 = 1 := by kernel_rfl
@[simp] theorem T_ag4 : aggT Try.prog 4 = some false := by kernel_rfl
@[simp] theorem T_in4 : intT Try.prog 4 = none := by kernel_rfl
@[simp] theorem T_bo4 : boolT Try.prog 4 = true := by kernel_rfl
@[simp] theorem T_bt4 : byteT Try.prog 4 = false := by kernel_rfl
@[simp] theorem T_by4 : byT Try.prog 4 = 1 := by kernel_rfl
@[simp] theorem T_z4 : zT Try.prog 4 = some [.bool false] := by kernel_rfl
@[simp] theorem T_sz5 : szT Try.prog 5 = 1 := by kernel_rfl
@[simp] theorem T_ag5 : aggT Try.prog 5 = some false := by kernel_rfl
@[simp] theorem T_el5 : elT Try.prog 5 = none := by kernel_rfl
@[simp] theorem T_ar5 : arrT Try.prog 5 = none := by kernel_rfl
@[simp] theorem T_in5 : intT Try.prog 5 = some .u8 := by kernel_rfl
@[simp] theorem T_bo5 : boolT Try.prog 5 = false := by kernel_rfl
@[simp] theorem T_bt5 : byteT Try.prog 5 = true := by kernel_rfl
@[simp] theorem T_by5 : byT Try.prog 5 = 1 := by kernel_rfl
@[simp] theorem T_z5 : zT Try.prog 5 = some [.int .u8 0] := by kernel_rfl
@[simp] theorem T_sz6 : szT Try.prog 6 = 1 := by kernel_rfl
@[simp] theorem T_ag6 : aggT Try.prog 6 = some false := by kernel_rfl
@[simp] theorem T_el6 : elT Try.prog 6 = none := by kernel_rfl
@[simp] theorem T_ar6 : arrT Try.prog 6 = none := by kernel_rfl
@[simp] theorem T_in6 : intT Try.prog 6 = some .u8 := by kernel_rfl
@[simp] theorem T_bo6 : boolT Try.prog 6 = false := by kernel_rfl
@[simp] theorem T_bt6 : byteT Try.prog 6 = true := by kernel_rfl
@[simp] theorem T_by6 : byT Try.prog 6 = 1 := by kernel_rfl
@[simp] theorem T_z6 : zT Try.prog 6 = some [.int .u8 0] := by kernel_rfl
@[simp] theorem T_sz7 : szT Try.prog 7 = 4 := by kernel_rfl
@[simp] theorem T_ag7 : aggT Try.prog 7 = some true := by kernel_rfl
@[simp] theorem T_el7 : elT Try.prog 7 = none := by kernel_rfl
@[simp] theorem T_ar7 : arrT Try.prog 7 = none := by kernel_rfl
@[simp] theorem T_by7 : byT Try.prog 7 = 24 := by kernel_rfl
@[simp] theorem T_f7_0 : fldT Try.prog 7 0 = some (0, 2) := by kernel_rfl
@[simp] theorem T_f7_1 : fldT Try.prog 7 1 = some (1, 3) := by kernel_rfl
@[simp] theorem T_f7_2 : fldT Try.prog 7 2 = some (2, 4) := by kernel_rfl
@[simp] theorem T_f7_3 : fldT Try.prog 7 3 = some (3, 6) := by kernel_rfl
@[simp] theorem T_if7 : infoAll Try.prog 7 = true := by kernel_rfl
@[simp] theorem T_z7 : zT Try.prog 7 = some [.int .i64 0, .int .i64 0, .bool false, .int .u8 0] := by kernel_rfl
@[simp] theorem T_sz8 : szT Try.prog 8 = 4 := by kernel_rfl
@[simp] theorem T_ag8 : aggT Try.prog 8 = some true := by kernel_rfl
@[simp] theorem T_el8 : elT Try.prog 8 = none := by kernel_rfl
@[simp] theorem T_ar8 : arrT Try.prog 8 = none := by kernel_rfl
@[simp] theorem T_by8 : byT Try.prog 8 = 24 := by kernel_rfl
@[simp] theorem T_f8_0 : fldT Try.prog 8 0 = some (0, 2) := by kernel_rfl
@[simp] theorem T_f8_1 : fldT Try.prog 8 1 = some (1, 3) := by kernel_rfl
@[simp] theorem T_f8_2 : fldT Try.prog 8 2 = some (2, 4) := by kernel_rfl
@[simp] theorem T_f8_3 : fldT Try.prog 8 3 = some (3, 6) := by kernel_rfl
@[simp] theorem T_if8 : infoAll Try.prog 8 = true := by kernel_rfl
@[simp] theorem T_z8 : zT Try.prog 8 = some [.int .i64 0, .int .i64 0, .bool false, .int .u8 0] := by kernel_rfl
@[simp] theorem T_sz9 : szT Try.prog 9 = 1 := by kernel_rfl
@[simp] theorem T_ag9 : aggT Try.prog 9 = some false := by kernel_rfl
@[simp] theorem T_el9 : elT Try.prog 9 = none := by kernel_rfl
@[simp] theorem T_ar9 : arrT Try.prog 9 = none := by kernel_rfl
@[simp] theorem T_st9 : strT Try.prog 9 = true := by kernel_rfl
@[simp] theorem T_in9 : intT Try.prog 9 = none := by kernel_rfl
@[simp] theorem T_bo9 : boolT Try.prog 9 = false := by kernel_rfl
@[simp] theorem T_bt9 : byteT Try.prog 9 = false := by kernel_rfl
@[simp] theorem T_by9 : byT Try.prog 9 = 16 := by kernel_rfl
@[simp] theorem T_z9 : zT Try.prog 9 = some [.str ByteArray.empty] := by kernel_rfl
@[simp] theorem T_sz10 : szT Try.prog 10 = 1 := by kernel_rfl
@[simp] theorem T_ag10 : aggT Try.prog 10 = some false := by kernel_rfl
@[simp] theorem T_el10 : elT Try.prog 10 = none := by kernel_rfl
@[simp] theorem T_ar10 : arrT Try.prog 10 = none := by kernel_rfl
@[simp] theorem T_st10 : strT Try.prog 10 = true := by kernel_rfl
@[simp] theorem T_in10 : intT Try.prog 10 = none := by kernel_rfl
@[simp] theorem T_bo10 : boolT Try.prog 10 = false := by kernel_rfl
@[simp] theorem T_bt10 : byteT Try.prog 10 = false := by kernel_rfl
@[simp] theorem T_by10 : byT Try.prog 10 = 16 := by kernel_rfl
@[simp] theorem T_z10 : zT Try.prog 10 = some [.str ByteArray.empty] := by kernel_rfl
@[simp] theorem T_sz11 : szT Try.prog 11 = 1 := by kernel_rfl
@[simp] theorem T_ag11 : aggT Try.prog 11 = some false := by kernel_rfl
@[simp] theorem T_el11 : elT Try.prog 11 = none := by kernel_rfl
@[simp] theorem T_ar11 : arrT Try.prog 11 = none := by kernel_rfl
@[simp] theorem T_st11 : strT Try.prog 11 = true := by kernel_rfl
@[simp] theorem T_in11 : intT Try.prog 11 = none := by kernel_rfl
@[simp] theorem T_bo11 : boolT Try.prog 11 = false := by kernel_rfl
@[simp] theorem T_bt11 : byteT Try.prog 11 = false := by kernel_rfl
@[simp] theorem T_by11 : byT Try.prog 11 = 16 := by kernel_rfl
@[simp] theorem T_z11 : zT Try.prog 11 = some [.str ByteArray.empty] := by kernel_rfl
@[simp] theorem T_sz12 : szT Try.prog 12 = 1 := by kernel_rfl
@[simp] theorem T_ag12 : aggT Try.prog 12 = some false := by kernel_rfl
@[simp] theorem T_el12 : elT Try.prog 12 = none := by kernel_rfl
@[simp] theorem T_ar12 : arrT Try.prog 12 = none := by kernel_rfl
@[simp] theorem T_in12 : intT Try.prog 12 = some .u64 := by kernel_rfl
@[simp] theorem T_bo12 : boolT Try.prog 12 = false := by kernel_rfl
@[simp] theorem T_bt12 : byteT Try.prog 12 = false := by kernel_rfl
@[simp] theorem T_by12 : byT Try.prog 12 = 8 := by kernel_rfl
@[simp] theorem T_z12 : zT Try.prog 12 = some [.int .u64 0] := by kernel_rfl
@[simp] theorem T_sz13 : szT Try.prog 13 = 2 := by kernel_rfl
@[simp] theorem T_ag13 : aggT Try.prog 13 = some true := by kernel_rfl
@[simp] theorem T_el13 : elT Try.prog 13 = none := by kernel_rfl
@[simp] theorem T_ar13 : arrT Try.prog 13 = none := by kernel_rfl
@[simp] theorem T_by13 : byT Try.prog 13 = 24 := by kernel_rfl
@[simp] theorem T_f13_0 : fldT Try.prog 13 0 = some (0, 9) := by kernel_rfl
@[simp] theorem T_f13_1 : fldT Try.prog 13 1 = some (1, 12) := by kernel_rfl
@[simp] theorem T_if13 : infoAll Try.prog 13 = true := by kernel_rfl
@[simp] theorem T_z13 : zT Try.prog 13 = some [.str ByteArray.empty, .int .u64 0] := by kernel_rfl
@[simp] theorem T_sz14 : szT Try.prog 14 = 2 := by kernel_rfl
@[simp] theorem T_ag14 : aggT Try.prog 14 = some true := by kernel_rfl
@[simp] theorem T_el14 : elT Try.prog 14 = none := by kernel_rfl
@[simp] theorem T_ar14 : arrT Try.prog 14 = none := by kernel_rfl
@[simp] theorem T_by14 : byT Try.prog 14 = 24 := by kernel_rfl
@[simp] theorem T_f14_0 : fldT Try.prog 14 0 = some (0, 9) := by kernel_rfl
@[simp] theorem T_f14_1 : fldT Try.prog 14 1 = some (1, 12) := by kernel_rfl
@[simp] theorem T_if14 : infoAll Try.prog 14 = true := by kernel_rfl
@[simp] theorem T_z14 : zT Try.prog 14 = some [.str ByteArray.empty, .int .u64 0] := by kernel_rfl
@[simp] theorem T_sz15 : szT Try.prog 15 = 1 := by kernel_rfl
@[simp] theorem T_ag15 : aggT Try.prog 15 = some false := by kernel_rfl
@[simp] theorem T_el15 : elT Try.prog 15 = none := by kernel_rfl
@[simp] theorem T_ar15 : arrT Try.prog 15 = none := by kernel_rfl
@[simp] theorem T_st15 : strT Try.prog 15 = false := by kernel_rfl
@[simp] theorem T_pt15 : ptrT Try.prog 15 = true := by kernel_rfl
@[simp] theorem T_by15 : byT Try.prog 15 = 8 := by kernel_rfl
@[simp] theorem T_z15 : zT Try.prog 15 = some [.nilptr] := by kernel_rfl
@[simp] theorem T_sz16 : szT Try.prog 16 = 1 := by kernel_rfl
@[simp] theorem T_ag16 : aggT Try.prog 16 = some false := by kernel_rfl
@[simp] theorem T_el16 : elT Try.prog 16 = none := by kernel_rfl
@[simp] theorem T_ar16 : arrT Try.prog 16 = none := by kernel_rfl
@[simp] theorem T_st16 : strT Try.prog 16 = false := by kernel_rfl
@[simp] theorem T_pt16 : ptrT Try.prog 16 = true := by kernel_rfl
@[simp] theorem T_by16 : byT Try.prog 16 = 8 := by kernel_rfl
@[simp] theorem T_z16 : zT Try.prog 16 = some [.nilptr] := by kernel_rfl
@[simp] theorem T_sz17 : szT Try.prog 17 = 1 := by kernel_rfl
@[simp] theorem T_ag17 : aggT Try.prog 17 = some false := by kernel_rfl
@[simp] theorem T_el17 : elT Try.prog 17 = none := by kernel_rfl
@[simp] theorem T_ar17 : arrT Try.prog 17 = none := by kernel_rfl
@[simp] theorem T_st17 : strT Try.prog 17 = false := by kernel_rfl
@[simp] theorem T_pt17 : ptrT Try.prog 17 = true := by kernel_rfl
@[simp] theorem T_by17 : byT Try.prog 17 = 8 := by kernel_rfl
@[simp] theorem T_z17 : zT Try.prog 17 = some [.nilptr] := by kernel_rfl
@[simp] theorem T_sz18 : szT Try.prog 18 = 1 := by kernel_rfl
@[simp] theorem T_ag18 : aggT Try.prog 18 = some true := by kernel_rfl
@[simp] theorem T_el18 : elT Try.prog 18 = none := by kernel_rfl
@[simp] theorem T_ar18 : arrT Try.prog 18 = none := by kernel_rfl
@[simp] theorem T_by18 : byT Try.prog 18 = 8 := by kernel_rfl
@[simp] theorem T_f18_0 : fldT Try.prog 18 0 = some (0, 17) := by kernel_rfl
@[simp] theorem T_if18 : infoAll Try.prog 18 = true := by kernel_rfl
@[simp] theorem T_z18 : zT Try.prog 18 = some [.nilptr] := by kernel_rfl
@[simp] theorem T_sz19 : szT Try.prog 19 = 1 := by kernel_rfl
@[simp] theorem T_ag19 : aggT Try.prog 19 = some true := by kernel_rfl
@[simp] theorem T_el19 : elT Try.prog 19 = none := by kernel_rfl
@[simp] theorem T_ar19 : arrT Try.prog 19 = none := by kernel_rfl
@[simp] theorem T_by19 : byT Try.prog 19 = 8 := by kernel_rfl
@[simp] theorem T_f19_0 : fldT Try.prog 19 0 = some (0, 17) := by kernel_rfl
@[simp] theorem T_if19 : infoAll Try.prog 19 = true := by kernel_rfl
@[simp] theorem T_z19 : zT Try.prog 19 = some [.nilptr] := by kernel_rfl
@[simp] theorem T_sz21 : szT Try.prog 21 = 1 := by kernel_rfl
@[simp] theorem T_ag21 : aggT Try.prog 21 = some false := by kernel_rfl
@[simp] theorem T_el21 : elT Try.prog 21 = none := by kernel_rfl
@[simp] theorem T_ar21 : arrT Try.prog 21 = none := by kernel_rfl
@[simp] theorem T_in21 : intT Try.prog 21 = some .i32 := by kernel_rfl
@[simp] theorem T_bo21 : boolT Try.prog 21 = false := by kernel_rfl
@[simp] theorem T_bt21 : byteT Try.prog 21 = false := by kernel_rfl
@[simp] theorem T_by21 : byT Try.prog 21 = 4 := by kernel_rfl
@[simp] theorem T_z21 : zT Try.prog 21 = some [.int .i32 0] := by kernel_rfl
@[simp] theorem T_sz22 : szT Try.prog 22 = 1 := by kernel_rfl
@[simp] theorem T_ag22 : aggT Try.prog 22 = some false := by kernel_rfl
@[simp] theorem T_sz23 : szT Try.prog 23 = 1 := by kernel_rfl
@[simp] theorem T_ag23 : aggT Try.prog 23 = some false := by kernel_rfl
@[simp] theorem T_el23 : elT Try.prog 23 = some 31 := by kernel_rfl
@[simp] theorem T_ar23 : arrT Try.prog 23 = none := by kernel_rfl
@[simp] theorem T_st23 : strT Try.prog 23 = false := by kernel_rfl
@[simp] theorem T_by23 : byT Try.prog 23 = 24 := by kernel_rfl
@[simp] theorem T_z23 : zT Try.prog 23 = some [.slice 5 true []] := by kernel_rfl
@[simp] theorem T_sz24 : szT Try.prog 24 = 1 := by kernel_rfl
@[simp] theorem T_ag24 : aggT Try.prog 24 = some false := by kernel_rfl
@[simp] theorem T_el24 : elT Try.prog 24 = none := by kernel_rfl
@[simp] theorem T_ar24 : arrT Try.prog 24 = none := by kernel_rfl
@[simp] theorem T_in24 : intT Try.prog 24 = some .i64 := by kernel_rfl
@[simp] theorem T_bo24 : boolT Try.prog 24 = false := by kernel_rfl
@[simp] theorem T_bt24 : byteT Try.prog 24 = false := by kernel_rfl
@[simp] theorem T_by24 : byT Try.prog 24 = 8 := by kernel_rfl
@[simp] theorem T_z24 : zT Try.prog 24 = some [.int .i64 0] := by kernel_rfl
@[simp] theorem T_sz26 : szT Try.prog 26 = 1 := by kernel_rfl
@[simp] theorem T_ag26 : aggT Try.prog 26 = some false := by kernel_rfl
@[simp] theorem T_sz27 : szT Try.prog 27 = 1 := by kernel_rfl
@[simp] theorem T_ag27 : aggT Try.prog 27 = some false := by kernel_rfl
@[simp] theorem T_sz28 : szT Try.prog 28 = 1 := by kernel_rfl
@[simp] theorem T_ag28 : aggT Try.prog 28 = some false := by kernel_rfl
@[simp] theorem T_sz29 : szT Try.prog 29 = 1 := by kernel_rfl
@[simp] theorem T_ag29 : aggT Try.prog 29 = some false := by kernel_rfl
@[simp] theorem T_sz30 : szT Try.prog 30 = 5 := by kernel_rfl
@[simp] theorem T_ag30 : aggT Try.prog 30 = some true := by kernel_rfl
@[simp] theorem T_el30 : elT Try.prog 30 = none := by kernel_rfl
@[simp] theorem T_ar30 : arrT Try.prog 30 = none := by kernel_rfl
@[simp] theorem T_by30 : byT Try.prog 30 = 48 := by kernel_rfl
@[simp] theorem T_f30_0 : fldT Try.prog 30 0 = some (0, 3) := by kernel_rfl
@[simp] theorem T_f30_1 : fldT Try.prog 30 1 = some (1, 3) := by kernel_rfl
@[simp] theorem T_f30_2 : fldT Try.prog 30 2 = some (2, 3) := by kernel_rfl
@[simp] theorem T_f30_3 : fldT Try.prog 30 3 = some (3, 3) := by kernel_rfl
@[simp] theorem T_f30_4 : fldT Try.prog 30 4 = some (4, 9) := by kernel_rfl
@[simp] theorem T_if30 : infoAll Try.prog 30 = true := by kernel_rfl
@[simp] theorem T_z30 : zT Try.prog 30 = some [.int .i64 0, .int .i64 0, .int .i64 0, .int .i64 0, .str ByteArray.empty] := by kernel_rfl
@[simp] theorem T_sz31 : szT Try.prog 31 = 5 := by kernel_rfl
@[simp] theorem T_ag31 : aggT Try.prog 31 = some true := by kernel_rfl
@[simp] theorem T_el31 : elT Try.prog 31 = none := by kernel_rfl
@[simp] theorem T_ar31 : arrT Try.prog 31 = none := by kernel_rfl
@[simp] theorem T_by31 : byT Try.prog 31 = 48 := by kernel_rfl
@[simp] theorem T_f31_0 : fldT Try.prog 31 0 = some (0, 3) := by kernel_rfl
@[simp] theorem T_f31_1 : fldT Try.prog 31 1 = some (1, 3) := by kernel_rfl
@[simp] theorem T_f31_2 : fldT Try.prog 31 2 = some (2, 3) := by kernel_rfl
@[simp] theorem T_f31_3 : fldT Try.prog 31 3 = some (3, 3) := by kernel_rfl
@[simp] theorem T_f31_4 : fldT Try.prog 31 4 = some (4, 9) := by kernel_rfl
@[simp] theorem T_fl31 : flatT Try.prog 31 = some [.i, .i, .i, .i, .s] := by kernel_rfl
@[simp] theorem T_if31 : infoAll Try.prog 31 = true := by kernel_rfl
@[simp] theorem T_z31 : zT Try.prog 31 = some [.int .i64 0, .int .i64 0, .int .i64 0, .int .i64 0, .str ByteArray.empty] := by kernel_rfl
@[simp] theorem T_sz32 : szT Try.prog 32 = 1 := by kernel_rfl
@[simp] theorem T_ag32 : aggT Try.prog 32 = some false := by kernel_rfl
@[simp] theorem T_sz33 : szT Try.prog 33 = 3 := by kernel_rfl
@[simp] theorem T_ag33 : aggT Try.prog 33 = some true := by kernel_rfl
@[simp] theorem T_el33 : elT Try.prog 33 = none := by kernel_rfl
@[simp] theorem T_ar33 : arrT Try.prog 33 = none := by kernel_rfl
@[simp] theorem T_by33 : byT Try.prog 33 = 48 := by kernel_rfl
@[simp] theorem T_f33_0 : fldT Try.prog 33 0 = some (0, 9) := by kernel_rfl
@[simp] theorem T_f33_1 : fldT Try.prog 33 1 = some (1, 3) := by kernel_rfl
@[simp] theorem T_f33_2 : fldT Try.prog 33 2 = some (2, 23) := by kernel_rfl
@[simp] theorem T_if33 : infoAll Try.prog 33 = true := by kernel_rfl
@[simp] theorem T_z33 : zT Try.prog 33 = some [.str ByteArray.empty, .int .i64 0, .slice 5 true []] := by kernel_rfl
@[simp] theorem T_sz34 : szT Try.prog 34 = 3 := by kernel_rfl
@[simp] theorem T_ag34 : aggT Try.prog 34 = some true := by kernel_rfl
@[simp] theorem T_el34 : elT Try.prog 34 = none := by kernel_rfl
@[simp] theorem T_ar34 : arrT Try.prog 34 = none := by kernel_rfl
@[simp] theorem T_by34 : byT Try.prog 34 = 48 := by kernel_rfl
@[simp] theorem T_f34_0 : fldT Try.prog 34 0 = some (0, 9) := by kernel_rfl
@[simp] theorem T_f34_1 : fldT Try.prog 34 1 = some (1, 3) := by kernel_rfl
@[simp] theorem T_f34_2 : fldT Try.prog 34 2 = some (2, 23) := by kernel_rfl
@[simp] theorem T_if34 : infoAll Try.prog 34 = true := by kernel_rfl
@[simp] theorem T_z34 : zT Try.prog 34 = some [.str ByteArray.empty, .int .i64 0, .slice 5 true []] := by kernel_rfl
@[simp] theorem T_sz35 : szT Try.prog 35 = 1 := by kernel_rfl
@[simp] theorem T_ag35 : aggT Try.prog 35 = some false := by kernel_rfl
@[simp] theorem T_sz36 : szT Try.prog 36 = 1 := by kernel_rfl
@[simp] theorem T_ag36 : aggT Try.prog 36 = some false := by kernel_rfl
@[simp] theorem T_sz37 : szT Try.prog 37 = 1 := by kernel_rfl
@[simp] theorem T_ag37 : aggT Try.prog 37 = some false := by kernel_rfl
@[simp] theorem T_el37 : elT Try.prog 37 = none := by kernel_rfl
@[simp] theorem T_ar37 : arrT Try.prog 37 = none := by kernel_rfl
@[simp] theorem T_st37 : strT Try.prog 37 = false := by kernel_rfl
@[simp] theorem T_pt37 : ptrT Try.prog 37 = true := by kernel_rfl
@[simp] theorem T_by37 : byT Try.prog 37 = 8 := by kernel_rfl
@[simp] theorem T_z37 : zT Try.prog 37 = some [.nilptr] := by kernel_rfl
@[simp] theorem T_sz38 : szT Try.prog 38 = 1 := by kernel_rfl
@[simp] theorem T_ag38 : aggT Try.prog 38 = some false := by kernel_rfl
@[simp] theorem T_sz39 : szT Try.prog 39 = 2 := by kernel_rfl
@[simp] theorem T_ag39 : aggT Try.prog 39 = some true := by kernel_rfl
@[simp] theorem T_el39 : elT Try.prog 39 = none := by kernel_rfl
@[simp] theorem T_ar39 : arrT Try.prog 39 = none := by kernel_rfl
@[simp] theorem T_by39 : byT Try.prog 39 = 16 := by kernel_rfl
@[simp] theorem T_f39_0 : fldT Try.prog 39 0 = some (0, 3) := by kernel_rfl
@[simp] theorem T_f39_1 : fldT Try.prog 39 1 = some (1, 24) := by kernel_rfl
@[simp] theorem T_if39 : infoAll Try.prog 39 = true := by kernel_rfl
@[simp] theorem T_z39 : zT Try.prog 39 = some [.int .i64 0, .int .i64 0] := by kernel_rfl
@[simp] theorem T_sz40 : szT Try.prog 40 = 2 := by kernel_rfl
@[simp] theorem T_ag40 : aggT Try.prog 40 = some true := by kernel_rfl
@[simp] theorem T_el40 : elT Try.prog 40 = none := by kernel_rfl
@[simp] theorem T_ar40 : arrT Try.prog 40 = none := by kernel_rfl
@[simp] theorem T_by40 : byT Try.prog 40 = 16 := by kernel_rfl
@[simp] theorem T_f40_0 : fldT Try.prog 40 0 = some (0, 3) := by kernel_rfl
@[simp] theorem T_f40_1 : fldT Try.prog 40 1 = some (1, 24) := by kernel_rfl
@[simp] theorem T_fl40 : flatT Try.prog 40 = some [.i, .i] := by kernel_rfl
@[simp] theorem T_if40 : infoAll Try.prog 40 = true := by kernel_rfl
@[simp] theorem T_z40 : zT Try.prog 40 = some [.int .i64 0, .int .i64 0] := by kernel_rfl
@[simp] theorem T_sz41 : szT Try.prog 41 = 8 := by kernel_rfl
@[simp] theorem T_ag41 : aggT Try.prog 41 = some true := by kernel_rfl
@[simp] theorem T_el41 : elT Try.prog 41 = none := by kernel_rfl
@[simp] theorem T_ar41 : arrT Try.prog 41 = none := by kernel_rfl
@[simp] theorem T_by41 : byT Try.prog 41 = 72 := by kernel_rfl
@[simp] theorem T_f41_0 : fldT Try.prog 41 0 = some (0, 31) := by kernel_rfl
@[simp] theorem T_f41_1 : fldT Try.prog 41 1 = some (5, 3) := by kernel_rfl
@[simp] theorem T_f41_2 : fldT Try.prog 41 2 = some (6, 3) := by kernel_rfl
@[simp] theorem T_f41_3 : fldT Try.prog 41 3 = some (7, 24) := by kernel_rfl
@[simp] theorem T_if41 : infoAll Try.prog 41 = true := by kernel_rfl
@[simp] theorem T_z41 : zT Try.prog 41 = some [.int .i64 0, .int .i64 0, .int .i64 0, .int .i64 0, .str ByteArray.empty, .int .i64 0, .int .i64 0, .int .i64 0] := by kernel_rfl
@[simp] theorem T_sz42 : szT Try.prog 42 = 8 := by kernel_rfl
@[simp] theorem T_ag42 : aggT Try.prog 42 = some true := by kernel_rfl
@[simp] theorem T_el42 : elT Try.prog 42 = none := by kernel_rfl
@[simp] theorem T_ar42 : arrT Try.prog 42 = none := by kernel_rfl
@[simp] theorem T_by42 : byT Try.prog 42 = 72 := by kernel_rfl
@[simp] theorem T_f42_0 : fldT Try.prog 42 0 = some (0, 31) := by kernel_rfl
@[simp] theorem T_f42_1 : fldT Try.prog 42 1 = some (5, 3) := by kernel_rfl
@[simp] theorem T_f42_2 : fldT Try.prog 42 2 = some (6, 3) := by kernel_rfl
@[simp] theorem T_f42_3 : fldT Try.prog 42 3 = some (7, 24) := by kernel_rfl
@[simp] theorem T_if42 : infoAll Try.prog 42 = true := by kernel_rfl
@[simp] theorem T_z42 : zT Try.prog 42 = some [.int .i64 0, .int .i64 0, .int .i64 0, .int .i64 0, .str ByteArray.empty, .int .i64 0, .int .i64 0, .int .i64 0] := by kernel_rfl
@[simp] theorem T_sz43 : szT Try.prog 43 = 1 := by kernel_rfl
@[simp] theorem T_ag43 : aggT Try.prog 43 = some false := by kernel_rfl
@[simp] theorem T_sz44 : szT Try.prog 44 = 1 := by kernel_rfl
@[simp] theorem T_ag44 : aggT Try.prog 44 = some false := by kernel_rfl
@[simp] theorem T_sz45 : szT Try.prog 45 = 1 := by kernel_rfl
@[simp] theorem T_ag45 : aggT Try.prog 45 = some false := by kernel_rfl
@[simp] theorem T_el45 : elT Try.prog 45 = some 9 := by kernel_rfl
@[simp] theorem T_ar45 : arrT Try.prog 45 = none := by kernel_rfl
@[simp] theorem T_st45 : strT Try.prog 45 = false := by kernel_rfl
@[simp] theorem T_by45 : byT Try.prog 45 = 24 := by kernel_rfl
@[simp] theorem T_z45 : zT Try.prog 45 = some [.slice 1 true []] := by kernel_rfl
@[simp] theorem T_sz46 : szT Try.prog 46 = 1 := by kernel_rfl
@[simp] theorem T_ag46 : aggT Try.prog 46 = some false := by kernel_rfl
@[simp] theorem T_sz47 : szT Try.prog 47 = 1 := by kernel_rfl
@[simp] theorem T_ag47 : aggT Try.prog 47 = some false := by kernel_rfl
@[simp] theorem T_el47 : elT Try.prog 47 = some 5 := by kernel_rfl
@[simp] theorem T_ar47 : arrT Try.prog 47 = none := by kernel_rfl
@[simp] theorem T_st47 : strT Try.prog 47 = false := by kernel_rfl
@[simp] theorem T_by47 : byT Try.prog 47 = 24 := by kernel_rfl
@[simp] theorem T_z47 : zT Try.prog 47 = some [.slice 1 true []] := by kernel_rfl
@[simp] theorem T_sz48 : szT Try.prog 48 = 1 := by kernel_rfl
@[simp] theorem T_ag48 : aggT Try.prog 48 = some false := by kernel_rfl
@[simp] theorem T_el48 : elT Try.prog 48 = none := by kernel_rfl
@[simp] theorem T_ar48 : arrT Try.prog 48 = none := by kernel_rfl
@[simp] theorem T_st48 : strT Try.prog 48 = false := by kernel_rfl
@[simp] theorem T_pt48 : ptrT Try.prog 48 = true := by kernel_rfl
@[simp] theorem T_by48 : byT Try.prog 48 = 8 := by kernel_rfl
@[simp] theorem T_z48 : zT Try.prog 48 = some [.nilptr] := by kernel_rfl
@[simp] theorem T_sz49 : szT Try.prog 49 = 1 := by kernel_rfl
@[simp] theorem T_ag49 : aggT Try.prog 49 = some false := by kernel_rfl
@[simp] theorem T_sz50 : szT Try.prog 50 = 1 := by kernel_rfl
@[simp] theorem T_ag50 : aggT Try.prog 50 = some false := by kernel_rfl
@[simp] theorem T_el50 : elT Try.prog 50 = none := by kernel_rfl
@[simp] theorem T_ar50 : arrT Try.prog 50 = none := by kernel_rfl
@[simp] theorem T_st50 : strT Try.prog 50 = false := by kernel_rfl
@[simp] theorem T_pt50 : ptrT Try.prog 50 = true := by kernel_rfl
@[simp] theorem T_by50 : byT Try.prog 50 = 8 := by kernel_rfl
@[simp] theorem T_z50 : zT Try.prog 50 = some [.nilptr] := by kernel_rfl
@[simp] theorem T_sz51 : szT Try.prog 51 = 2 := by kernel_rfl
@[simp] theorem T_ag51 : aggT Try.prog 51 = some true := by kernel_rfl
@[simp] theorem T_el51 : elT Try.prog 51 = none := by kernel_rfl
@[simp] theorem T_ar51 : arrT Try.prog 51 = none := by kernel_rfl
@[simp] theorem T_by51 : byT Try.prog 51 = 32 := by kernel_rfl
@[simp] theorem T_f51_0 : fldT Try.prog 51 0 = some (0, 50) := by kernel_rfl
@[simp] theorem T_f51_1 : fldT Try.prog 51 1 = some (1, 47) := by kernel_rfl
@[simp] theorem T_if51 : infoAll Try.prog 51 = true := by kernel_rfl
@[simp] theorem T_z51 : zT Try.prog 51 = some [.nilptr, .slice 1 true []] := by kernel_rfl
@[simp] theorem T_sz52 : szT Try.prog 52 = 2 := by kernel_rfl
@[simp] theorem T_ag52 : aggT Try.prog 52 = some true := by kernel_rfl
@[simp] theorem T_el52 : elT Try.prog 52 = none := by kernel_rfl
@[simp] theorem T_ar52 : arrT Try.prog 52 = none := by kernel_rfl
@[simp] theorem T_by52 : byT Try.prog 52 = 32 := by kernel_rfl
@[simp] theorem T_f52_0 : fldT Try.prog 52 0 = some (0, 50) := by kernel_rfl
@[simp] theorem T_f52_1 : fldT Try.prog 52 1 = some (1, 47) := by kernel_rfl
@[simp] theorem T_if52 : infoAll Try.prog 52 = true := by kernel_rfl
@[simp] theorem T_z52 : zT Try.prog 52 = some [.nilptr, .slice 1 true []] := by kernel_rfl
@[simp] theorem T_sz55 : szT Try.prog 55 = 1 := by kernel_rfl
@[simp] theorem T_ag55 : aggT Try.prog 55 = some false := by kernel_rfl
@[simp] theorem T_sz56 : szT Try.prog 56 = 1 := by kernel_rfl
@[simp] theorem T_ag56 : aggT Try.prog 56 = some false := by kernel_rfl
@[simp] theorem T_sz57 : szT Try.prog 57 = 1 := by kernel_rfl
@[simp] theorem T_ag57 : aggT Try.prog 57 = some false := by kernel_rfl
@[simp] theorem T_sz58 : szT Try.prog 58 = 1 := by kernel_rfl
@[simp] theorem T_ag58 : aggT Try.prog 58 = some false := by kernel_rfl
@[simp] theorem T_sz59 : szT Try.prog 59 = 1 := by kernel_rfl
@[simp] theorem T_ag59 : aggT Try.prog 59 = some false := by kernel_rfl
@[simp] theorem T_el59 : elT Try.prog 59 = none := by kernel_rfl
@[simp] theorem T_ar59 : arrT Try.prog 59 = none := by kernel_rfl
@[simp] theorem T_st59 : strT Try.prog 59 = false := by kernel_rfl
@[simp] theorem T_pt59 : ptrT Try.prog 59 = true := by kernel_rfl
@[simp] theorem T_by59 : byT Try.prog 59 = 8 := by kernel_rfl
@[simp] theorem T_z59 : zT Try.prog 59 = some [.nilptr] := by kernel_rfl
@[simp] theorem T_sz60 : szT Try.prog 60 = 1 := by kernel_rfl
@[simp] theorem T_ag60 : aggT Try.prog 60 = some false := by kernel_rfl
@[simp] theorem T_sz61 : szT Try.prog 61 = 1 := by kernel_rfl
@[simp] theorem T_ag61 : aggT Try.prog 61 = some false := by kernel_rfl
@[simp] theorem T_sz62 : szT Try.prog 62 = 1 := by kernel_rfl
@[simp] theorem T_ag62 : aggT Try.prog 62 = some false := by kernel_rfl
@[simp] theorem T_el62 : elT Try.prog 62 = none := by kernel_rfl
@[simp] theorem T_ar62 : arrT Try.prog 62 = none := by kernel_rfl
@[simp] theorem T_in62 : intT Try.prog 62 = some .u64 := by kernel_rfl
@[simp] theorem T_bo62 : boolT Try.prog 62 = false := by kernel_rfl
@[simp] theorem T_bt62 : byteT Try.prog 62 = false := by kernel_rfl
@[simp] theorem T_by62 : byT Try.prog 62 = 8 := by kernel_rfl
@[simp] theorem T_z62 : zT Try.prog 62 = some [.int .u64 0] := by kernel_rfl
@[simp] theorem T_sz64 : szT Try.prog 64 = 1 := by kernel_rfl
@[simp] theorem T_ag64 : aggT Try.prog 64 = some false := by kernel_rfl
@[simp] theorem T_sz65 : szT Try.prog 65 = 1 := by kernel_rfl
@[simp] theorem T_ag65 : aggT Try.prog 65 = some false := by kernel_rfl
@[simp] theorem T_el65 : elT Try.prog 65 = none := by kernel_rfl
@[simp] theorem T_ar65 : arrT Try.prog 65 = none := by kernel_rfl
@[simp] theorem T_in65 : intT Try.prog 65 = some .u32 := by kernel_rfl
@[simp] theorem T_bo65 : boolT Try.prog 65 = false := by kernel_rfl
@[simp] theorem T_bt65 : byteT Try.prog 65 = false := by kernel_rfl
@[simp] theorem T_by65 : byT Try.prog 65 = 4 := by kernel_rfl
@[simp] theorem T_z65 : zT Try.prog 65 = some [.int .u32 0] := by kernel_rfl
@[simp] theorem T_sz67 : szT Try.prog 67 = 1 := by kernel_rfl
@[simp] theorem T_ag67 : aggT Try.prog 67 = some false := by kernel_rfl
@[simp] theorem T_sz68 : szT Try.prog 68 = 4 := by kernel_rfl
@[simp] theorem T_ag68 : aggT Try.prog 68 = some true := by kernel_rfl
@[simp] theorem T_el68 : elT Try.prog 68 = none := by kernel_rfl
@[simp] theorem T_ar68 : arrT Try.prog 68 = none := by kernel_rfl
@[simp] theorem T_by68 : byT Try.prog 68 = 40 := by kernel_rfl
@[simp] theorem T_f68_0 : fldT Try.prog 68 0 = some (0, 17) := by kernel_rfl
@[simp] theorem T_f68_1 : fldT Try.prog 68 1 = some (1, 17) := by kernel_rfl
@[simp] theorem T_f68_2 : fldT Try.prog 68 2 = some (2, 17) := by kernel_rfl
@[simp] theorem T_f68_3 : fldT Try.prog 68 3 = some (3, 9) := by kernel_rfl
@[simp] theorem T_if68 : infoAll Try.prog 68 = true := by kernel_rfl
@[simp] theorem T_z68 : zT Try.prog 68 = some [.nilptr, .nilptr, .nilptr, .str ByteArray.empty] := by kernel_rfl
@[simp] theorem T_sz69 : szT Try.prog 69 = 4 := by kernel_rfl
@[simp] theorem T_ag69 : aggT Try.prog 69 = some true := by kernel_rfl
@[simp] theorem T_el69 : elT Try.prog 69 = none := by kernel_rfl
@[simp] theorem T_ar69 : arrT Try.prog 69 = none := by kernel_rfl
@[simp] theorem T_by69 : byT Try.prog 69 = 40 := by kernel_rfl
@[simp] theorem T_f69_0 : fldT Try.prog 69 0 = some (0, 17) := by kernel_rfl
@[simp] theorem T_f69_1 : fldT Try.prog 69 1 = some (1, 17) := by kernel_rfl
@[simp] theorem T_f69_2 : fldT Try.prog 69 2 = some (2, 17) := by kernel_rfl
@[simp] theorem T_f69_3 : fldT Try.prog 69 3 = some (3, 9) := by kernel_rfl
@[simp] theorem T_if69 : infoAll Try.prog 69 = true := by kernel_rfl
@[simp] theorem T_z69 : zT Try.prog 69 = some [.nilptr, .nilptr, .nilptr, .str ByteArray.empty] := by kernel_rfl
@[simp] theorem T_sz70 : szT Try.prog 70 = 0 := by kernel_rfl
@[simp] theorem T_ag70 : aggT Try.prog 70 = some true := by kernel_rfl
@[simp] theorem T_el70 : elT Try.prog 70 = none := by kernel_rfl
@[simp] theorem T_ar70 : arrT Try.prog 70 = some (0, 16) := by kernel_rfl
@[simp] theorem T_st70 : strT Try.prog 70 = false := by kernel_rfl
@[simp] theorem T_by70 : byT Try.prog 70 = 0 := by kernel_rfl
@[simp] theorem T_sz71 : szT Try.prog 71 = 0 := by kernel_rfl
@[simp] theorem T_ag71 : aggT Try.prog 71 = some true := by kernel_rfl
@[simp] theorem T_el71 : elT Try.prog 71 = none := by kernel_rfl
@[simp] theorem T_ar71 : arrT Try.prog 71 = none := by kernel_rfl
@[simp] theorem T_by71 : byT Try.prog 71 = 0 := by kernel_rfl
@[simp] theorem T_f71_0 : fldT Try.prog 71 0 = some (0, 70) := by kernel_rfl
@[simp] theorem T_if71 : infoAll Try.prog 71 = true := by kernel_rfl
@[simp] theorem T_sz72 : szT Try.prog 72 = 0 := by kernel_rfl
@[simp] theorem T_ag72 : aggT Try.prog 72 = some true := by kernel_rfl
@[simp] theorem T_el72 : elT Try.prog 72 = none := by kernel_rfl
@[simp] theorem T_ar72 : arrT Try.prog 72 = none := by kernel_rfl
@[simp] theorem T_by72 : byT Try.prog 72 = 0 := by kernel_rfl
@[simp] theorem T_f72_0 : fldT Try.prog 72 0 = some (0, 70) := by kernel_rfl
@[simp] theorem T_if72 : infoAll Try.prog 72 = true := by kernel_rfl
@[simp] theorem T_sz73 : szT Try.prog 73 = 1 := by kernel_rfl
@[simp] theorem T_ag73 : aggT Try.prog 73 = some false := by kernel_rfl
@[simp] theorem T_el73 : elT Try.prog 73 = none := by kernel_rfl
@[simp] theorem T_ar73 : arrT Try.prog 73 = none := by kernel_rfl
@[simp] theorem T_in73 : intT Try.prog 73 = some .u8 := by kernel_rfl
@[simp] theorem T_bo73 : boolT Try.prog 73 = false := by kernel_rfl
@[simp] theorem T_bt73 : byteT Try.prog 73 = true := by kernel_rfl
@[simp] theorem T_by73 : byT Try.prog 73 = 1 := by kernel_rfl
@[simp] theorem T_z73 : zT Try.prog 73 = some [.int .u8 0] := by kernel_rfl
@[simp] theorem T_sz74 : szT Try.prog 74 = 1 := by kernel_rfl
@[simp] theorem T_ag74 : aggT Try.prog 74 = some false := by kernel_rfl
@[simp] theorem T_el74 : elT Try.prog 74 = none := by kernel_rfl
@[simp] theorem T_ar74 : arrT Try.prog 74 = none := by kernel_rfl
@[simp] theorem T_in74 : intT Try.prog 74 = some .u8 := by kernel_rfl
@[simp] theorem T_bo74 : boolT Try.prog 74 = false := by kernel_rfl
@[simp] theorem T_bt74 : byteT Try.prog 74 = true := by kernel_rfl
@[simp] theorem T_by74 : byT Try.prog 74 = 1 := by kernel_rfl
@[simp] theorem T_z74 : zT Try.prog 74 = some [.int .u8 0] := by kernel_rfl
@[simp] theorem T_sz75 : szT Try.prog 75 = 1 := by kernel_rfl
@[simp] theorem T_ag75 : aggT Try.prog 75 = some false := by kernel_rfl
@[simp] theorem T_sz76 : szT Try.prog 76 = 1 := by kernel_rfl
@[simp] theorem T_ag76 : aggT Try.prog 76 = some false := by kernel_rfl
@[simp] theorem T_el76 : elT Try.prog 76 = none := by kernel_rfl
@[simp] theorem T_ar76 : arrT Try.prog 76 = none := by kernel_rfl
@[simp] theorem T_in76 : intT Try.prog 76 = some .i32 := by kernel_rfl
@[simp] theorem T_bo76 : boolT Try.prog 76 = false := by kernel_rfl
@[simp] theorem T_bt76 : byteT Try.prog 76 = false := by kernel_rfl
@[simp] theorem T_by76 : byT Try.prog 76 = 4 := by kernel_rfl
@[simp] theorem T_z76 : zT Try.prog 76 = some [.int .i32 0] := by kernel_rfl
@[simp] theorem T_sz77 : szT Try.prog 77 = 1 := by kernel_rfl
@[simp] theorem T_ag77 : aggT Try.prog 77 = some false := by kernel_rfl
@[simp] theorem T_el77 : elT Try.prog 77 = none := by kernel_rfl
@[simp] theorem T_ar77 : arrT Try.prog 77 = none := by kernel_rfl
@[simp] theorem T_in77 : intT Try.prog 77 = some .i32 := by kernel_rfl
@[simp] theorem T_bo77 : boolT Try.prog 77 = false := by kernel_rfl
@[simp] theorem T_bt77 : byteT Try.prog 77 = false := by kernel_rfl
@[simp] theorem T_by77 : byT Try.prog 77 = 4 := by kernel_rfl
@[simp] theorem T_z77 : zT Try.prog 77 = some [.int .i32 0] := by kernel_rfl
@[simp] theorem T_sz78 : szT Try.prog 78 = 11 := by kernel_rfl
@[simp] theorem T_ag78 : aggT Try.prog 78 = some true := by kernel_rfl
@[simp] theorem T_el78 : elT Try.prog 78 = none := by kernel_rfl
@[simp] theorem T_ar78 : arrT Try.prog 78 = none := by kernel_rfl
@[simp] theorem T_by78 : byT Try.prog 78 = 48 := by kernel_rfl
@[simp] theorem T_f78_0 : fldT Try.prog 78 0 = some (0, 12) := by kernel_rfl
@[simp] theorem T_f78_1 : fldT Try.prog 78 1 = some (1, 12) := by kernel_rfl
@[simp] theorem T_f78_2 : fldT Try.prog 78 2 = some (2, 65) := by kernel_rfl
@[simp] theorem T_f78_3 : fldT Try.prog 78 3 = some (3, 73) := by kernel_rfl
@[simp] theorem T_f78_4 : fldT Try.prog 78 4 = some (4, 5) := by kernel_rfl
@[simp] theorem T_f78_5 : fldT Try.prog 78 5 = some (5, 5) := by kernel_rfl
@[simp] theorem T_f78_6 : fldT Try.prog 78 6 = some (6, 74) := by kernel_rfl
@[simp] theorem T_f78_7 : fldT Try.prog 78 7 = some (7, 75) := by kernel_rfl
@[simp] theorem T_f78_8 : fldT Try.prog 78 8 = some (8, 59) := by kernel_rfl
@[simp] theorem T_f78_9 : fldT Try.prog 78 9 = some (9, 76) := by kernel_rfl
@[simp] theorem T_f78_10 : fldT Try.prog 78 10 = some (10, 77) := by kernel_rfl
@[simp] theorem T_if78 : infoAll Try.prog 78 = true := by kernel_rfl
@[simp] theorem T_sz79 : szT Try.prog 79 = 11 := by kernel_rfl
@[simp] theorem T_ag79 : aggT Try.prog 79 = some true := by kernel_rfl
@[simp] theorem T_el79 : elT Try.prog 79 = none := by kernel_rfl
@[simp] theorem T_ar79 : arrT Try.prog 79 = none := by kernel_rfl
@[simp] theorem T_by79 : byT Try.prog 79 = 48 := by kernel_rfl
@[simp] theorem T_f79_0 : fldT Try.prog 79 0 = some (0, 12) := by kernel_rfl
@[simp] theorem T_f79_1 : fldT Try.prog 79 1 = some (1, 12) := by kernel_rfl
@[simp] theorem T_f79_2 : fldT Try.prog 79 2 = some (2, 65) := by kernel_rfl
@[simp] theorem T_f79_3 : fldT Try.prog 79 3 = some (3, 73) := by kernel_rfl
@[simp] theorem T_f79_4 : fldT Try.prog 79 4 = some (4, 5) := by kernel_rfl
@[simp] theorem T_f79_5 : fldT Try.prog 79 5 = some (5, 5) := by kernel_rfl
@[simp] theorem T_f79_6 : fldT Try.prog 79 6 = some (6, 74) := by kernel_rfl
@[simp] theorem T_f79_7 : fldT Try.prog 79 7 = some (7, 75) := by kernel_rfl
@[simp] theorem T_f79_8 : fldT Try.prog 79 8 = some (8, 59) := by kernel_rfl
@[simp] theorem T_f79_9 : fldT Try.prog 79 9 = some (9, 76) := by kernel_rfl
@[simp] theorem T_f79_10 : fldT Try.prog 79 10 = some (10, 77) := by kernel_rfl
@[simp] theorem T_if79 : infoAll Try.prog 79 = true := by kernel_rfl

theorem mixed : Try.prog.follows .mixedOrders = true := by kernel_rfl

end Go.Proofs.Ytogepfcmmmokdaa
