/-
  What the operations ask of the types of this program. Printed by wip/types.py.
-/
import Derived.Test.YtpbgnnaaobamfaaAmE
import Derived.Test.YtpbgnnaaobamfaaChecked
namespace Go.Proofs.Ytpbgnnaaobamfaa
open Go.RowKit
set_option maxRecDepth 100000

@[simp] theorem T_sz1 : szT Try.prog 1 = 1 := by kernel_rfl
@[simp] theorem T_ag1 : aggT Try.prog 1 = some false := by kernel_rfl
@[simp] theorem T_sz2 : szT Try.prog 2 = 1 := by kernel_rfl
@[simp] theorem T_ag2 : aggT Try.prog 2 = some false := by kernel_rfl
@[simp] theorem T_el2 : elT Try.prog 2 = none := by kernel_rfl
@[simp] theorem T_ar2 : arrT Try.prog 2 = none := by kernel_rfl
@[simp] theorem T_in2 : intT Try.prog 2 = some .i64 := by kernel_rfl
@[simp] theorem T_bo2 : boolT Try.prog 2 = false := by kernel_rfl
@[simp] theorem T_bt2 : byteT Try.prog 2 = false := by kernel_rfl
@[simp] theorem T_by2 : byT Try.prog 2 = 8 := by kernel_rfl
@[simp] theorem T_z2 : zT Try.prog 2 = some [.int .i64 0] := by kernel_rfl
@[simp] theorem T_sz3 : szT Try.prog 3 = 1 := by kernel_rfl
@[simp] theorem T_ag3 : aggT Try.prog 3 = some false := by kernel_rfl
@[simp] theorem T_el3 : elT Try.prog 3 = none := by kernel_rfl
@[simp] theorem T_ar3 : arrT Try.prog 3 = none := by kernel_rfl
@[simp] theorem T_in3 : intT Try.prog 3 = some .i64 := by kernel_rfl
@[simp] theorem T_bo3 : boolT Try.prog 3 = false := by kernel_rfl
@[simp] theorem T_bt3 : byteT Try.prog 3 = false := by kernel_rfl
@[simp] theorem T_by3 : byT Try.prog 3 = 8 := by kernel_rfl
@[simp] theorem T_z3 : zT Try.prog 3 = some [.int .i64 0] := by kernel_rfl
@[simp] theorem T_sz4 : szT Try.prog 4 = 1 := by kernel_rfl
@[simp] theorem T_ag4 : aggT Try.prog 4 = some false := by kernel_rfl
@[simp] theorem T_in4 : intT Try.prog 4 = none := by kernel_rfl
@[simp] theorem T_bo4 : boolT Try.prog 4 = true := by kernel_rfl
@[simp] theorem T_bt4 : byteT Try.prog 4 = false := by kernel_rfl
@[simp] theorem T_by4 : byT Try.prog 4 = 1 := by kernel_rfl
@[simp] theorem T_z4 : zT Try.prog 4 = some [.bool false] := by kernel_rfl
@[simp] theorem T_sz5 : szT Try.prog 5 = 1 := by kernel_rfl
@[simp] theorem T_ag5 : aggT Try.prog 5 = some false := by kernel_rfl
@[simp] theorem T_el5 : elT Try.prog 5 = none := by kernel_rfl
@[simp] theorem T_ar5 : arrT Try.prog 5 = none := by kernel_rfl
@[simp] theorem T_in5 : intT Try.prog 5 = some .u8 := by kernel_rfl
@[simp] theorem T_bo5 : boolT Try.prog 5 = false := by kernel_rfl
@[simp] theorem T_bt5 : byteT Try.prog 5 = true := by kernel_rfl
@[simp] theorem T_by5 : byT Try.prog 5 = 1 := by kernel_rfl
@[simp] theorem T_z5 : zT Try.prog 5 = some [.int .u8 0] := by kernel_rfl
@[simp] theorem T_sz6 : szT Try.prog 6 = 1 := by kernel_rfl
@[simp] theorem T_ag6 : aggT Try.prog 6 = some false := by kernel_rfl
@[simp] theorem T_el6 : elT Try.prog 6 = none := by kernel_rfl
@[simp] theorem T_ar6 : arrT Try.prog 6 = none := by kernel_rfl
@[simp] theorem T_in6 : intT Try.prog 6 = some .u8 := by kernel_rfl
@[simp] theorem T_bo6 : boolT Try.prog 6 = false := by kernel_rfl
@[simp] theorem T_bt6 : byteT Try.prog 6 = true := by kernel_rfl
@[simp] theorem T_by6 : byT Try.prog 6 = 1 := by kernel_rfl
@[simp] theorem T_z6 : zT Try.prog 6 = some [.int .u8 0] := by kernel_rfl
@[simp] theorem T_sz7 : szT Try.prog 7 = 4 := by kernel_rfl
@[simp] theorem T_ag7 : aggT Try.prog 7 = some true := by kernel_rfl
@[simp] theorem T_el7 : elT Try.prog 7 = none := by kernel_rfl
@[simp] theorem T_ar7 : arrT Try.prog 7 = none := by kernel_rfl
@[simp] theorem T_by7 : byT Try.prog 7 = 24 := by kernel_rfl
@[simp] theorem T_f7_0 : fldT Try.prog 7 0 = some (0, 2) := by kernel_rfl
@[simp] theorem T_f7_1 : fldT Try.prog 7 1 = some (1, 3) := by kernel_rfl
@[simp] theorem T_f7_2 : fldT Try.prog 7 2 = some (2, 4) := by kernel_rfl
@[simp] theorem T_f7_3 : fldT Try.prog 7 3 = some (3, 6) := by kernel_rfl
@[simp] theorem T_if7 : infoAll Try.prog 7 = true := by kernel_rfl
@[simp] theorem T_z7 : zT Try.prog 7 = some [.int .i64 0, .int .i64 0, .bool false, .int .u8 0] := by kernel_rfl
@[simp] theorem T_sz8 : szT Try.prog 8 = 4 := by kernel_rfl
@[simp] theorem T_ag8 : aggT Try.prog 8 = some true := by kernel_rfl
@[simp] theorem T_el8 : elT Try.prog 8 = none := by kernel_rfl
@[simp] theorem T_ar8 : arrT Try.prog 8 = none := by kernel_rfl
@[simp] theorem T_by8 : byT Try.prog 8 = 24 := by kernel_rfl
@[simp] theorem T_f8_0 : fldT Try.prog 8 0 = some (0, 2) := by kernel_rfl
@[simp] theorem T_f8_1 : fldT Try.prog 8 1 = some (1, 3) := by kernel_rfl
@[simp] theorem T_f8_2 : fldT Try.prog 8 2 = some (2, 4) := by kernel_rfl
@[simp] theorem T_f8_3 : fldT Try.prog 8 3 = some (3, 6) := by kernel_rfl
@[simp] theorem T_if8 : infoAll Try.prog 8 = true := by kernel_rfl
@[simp] theorem T_z8 : zT Try.prog 8 = some [.int .i64 0, .int .i64 0, .bool false, .int .u8 0] := by kernel_rfl
@[simp] theorem T_sz9 : szT Try.prog 9 = 1 := by kernel_rfl
@[simp] theorem T_ag9 : aggT Try.prog 9 = some false := by kernel_rfl
@[simp] theorem T_el9 : elT Try.prog 9 = none := by kernel_rfl
@[simp] theorem T_ar9 : arrT Try.prog 9 = none := by kernel_rfl
@[simp] theorem T_st9 : strT Try.prog 9 = true := by kernel_rfl
@[simp] theorem T_in9 : intT Try.prog 9 = none := by kernel_rfl
@[simp] theorem T_bo9 : boolT Try.prog 9 = false := by kernel_rfl
@[simp] theorem T_bt9 : byteT Try.prog 9 = false := by kernel_rfl
@[simp] theorem T_by9 : byT Try.prog 9 = 16 := by kernel_rfl
@[simp] theorem T_z9 : zT Try.prog 9 = some [.str ByteArray.empty] := by kernel_rfl
@[simp] theorem T_sz10 : szT Try.prog 10 = 1 := by kernel_rfl
@[simp] theorem T_ag10 : aggT Try.prog 10 = some false := by kernel_rfl
@[simp] theorem T_el10 : elT Try.prog 10 = none := by kernel_rfl
@[simp] theorem T_ar10 : arrT Try.prog 10 = none := by kernel_rfl
@[simp] theorem T_st10 : strT Try.prog 10 = true := by kernel_rfl
@[simp] theorem T_in10 : intT Try.prog 10 = none := by kernel_rfl
@[simp] theorem T_bo10 : boolT Try.prog 10 = false := by kernel_rfl
@[simp] theorem T_bt10 : byteT Try.prog 10 = false := by kernel_rfl
@[simp] theorem T_by10 : byT Try.prog 10 = 16 := by kernel_rfl
@[simp] theorem T_z10 : zT Try.prog 10 = some [.str ByteArray.empty] := by kernel_rfl
@[simp] theorem T_sz11 : szT Try.prog 11 = 1 := by kernel_rfl
@[simp] theorem T_ag11 : aggT Try.prog 11 = some false := by kernel_rfl
@[simp] theorem T_el11 : elT Try.prog 11 = none := by kernel_rfl
@[simp] theorem T_ar11 : arrT Try.prog 11 = none := by kernel_rfl
@[simp] theorem T_st11 : strT Try.prog 11 = true := by kernel_rfl
@[simp] theorem T_in11 : intT Try.prog 11 = none := by kernel_rfl
@[simp] theorem T_bo11 : boolT Try.prog 11 = false := by kernel_rfl
@[simp] theorem T_bt11 : byteT Try.prog 11 = false := by kernel_rfl
@[simp] theorem T_by11 : byT Try.prog 11 = 16 := by kernel_rfl
@[simp] theorem T_z11 : zT Try.prog 11 = some [.str ByteArray.empty] := by kernel_rfl
@[simp] theorem T_sz12 : szT Try.prog 12 = 1 := by kernel_rfl
@[simp] theorem T_ag12 : aggT Try.prog 12 = some false := by kernel_rfl
@[simp] theorem T_el12 : elT Try.prog 12 = none := by kernel_rfl
@[simp] theorem T_ar12 : arrT Try.prog 12 = none := by kernel_rfl
@[simp] theorem T_in12 : intT Try.prog 12 = some .u64 := by kernel_rfl
@[simp] theorem T_bo12 : boolT Try.prog 12 = false := by kernel_rfl
@[simp] theorem T_bt12 : byteT Try.prog 12 = false := by kernel_rfl
@[simp] theorem T_by12 : byT Try.prog 12 = 8 := by kernel_rfl
@[simp] theorem T_z12 : zT Try.prog 12 = some [.int .u64 0] := by kernel_rfl
@[simp] theorem T_sz13 : szT Try.prog 13 = 2 := by kernel_rfl
@[simp] theorem T_ag13 : aggT Try.prog 13 = some true := by kernel_rfl
@[simp] theorem T_el13 : elT Try.prog 13 = none := by kernel_rfl
@[simp] theorem T_ar13 : arrT Try.prog 13 = none := by kernel_rfl
@[simp] theorem T_by13 : byT Try.prog 13 = 24 := by kernel_rfl
@[simp] theorem T_f13_0 : fldT Try.prog 13 0 = some (0, 9) := by kernel_rfl
@[simp] theorem T_f13_1 : fldT Try.prog 13 1 = some (1, 12) := by kernel_rfl
@[simp] theorem T_if13 : infoAll Try.prog 13 = true := by kernel_rfl
@[simp] theorem T_z13 : zT Try.prog 13 = some [.str ByteArray.empty, .int .u64 0] := by kernel_rfl
@[simp] theorem T_sz14 : szT Try.prog 14 = 2 := by kernel_rfl
@[simp] theorem T_ag14 : aggT Try.prog 14 = some true := by kernel_rfl
@[simp] theorem T_el14 : elT Try.prog 14 = none := by kernel_rfl
@[simp] theorem T_ar14 : arrT Try.prog 14 = none := by kernel_rfl
@[simp] theorem T_by14 : byT Try.prog 14 = 24 := by kernel_rfl
@[simp] theorem T_f14_0 : fldT Try.prog 14 0 = some (0, 9) := by kernel_rfl
@[simp] theorem T_f14_1 : fldT Try.prog 14 1 = some (1, 12) := by kernel_rfl
@[simp] theorem T_if14 : infoAll Try.prog 14 = true := by kernel_rfl
@[simp] theorem T_z14 : zT Try.prog 14 = some [.str ByteArray.empty, .int .u64 0] := by kernel_rfl
@[simp] theorem T_sz15 : szT Try.prog 15 = 1 := by kernel_rfl
@[simp] theorem T_ag15 : aggT Try.prog 15 = some false := by kernel_rfl
@[simp] theorem T_el15 : elT Try.prog 15 = none := by kernel_rfl
@[simp] theorem T_ar15 : arrT Try.prog 15 = none := by kernel_rfl
@[simp] theorem T_st15 : strT Try.prog 15 = false := by kernel_rfl
@[simp] theorem T_pt15 : ptrT Try.prog 15 = true := by kernel_rfl
@[simp] theorem T_by15 : byT Try.prog 15 = 8 := by kernel_rfl
@[simp] theorem T_z15 : zT Try.prog 15 = some [.nilptr] := by kernel_rfl
@[simp] theorem T_sz16 : szT Try.prog 16 = 1 := by kernel_rfl
@[simp] theorem T_ag16 : aggT Try.prog 16 = some false := by kernel_rfl
@[simp] theorem T_el16 : elT Try.prog 16 = none := by kernel_rfl
@[simp] theorem T_ar16 : arrT Try.prog 16 = none := by kernel_rfl
@[simp] theorem T_st16 : strT Try.prog 16 = false := by kernel_rfl
@[simp] theorem T_pt16 : ptrT Try.prog 16 = true := by kernel_rfl
@[simp] theorem T_by16 : byT Try.prog 16 = 8 := by kernel_rfl
@[simp] theorem T_z16 : zT Try.prog 16 = some [.nilptr] := by kernel_rfl
@[simp] theorem T_sz17 : szT Try.prog 17 = 1 := by kernel_rfl
@[simp] theorem T_ag17 : aggT Try.prog 17 = some false := by kernel_rfl
@[simp] theorem T_el17 : elT Try.prog 17 = none := by kernel_rfl
@[simp] theorem T_ar17 : arrT Try.prog 17 = none := by kernel_rfl
@[simp] theorem T_st17 : strT Try.prog 17 = false := by kernel_rfl
@[simp] theorem T_pt17 : ptrT Try.prog 17 = true := by kernel_rfl
@[simp] theorem T_by17 : byT Try.prog 17 = 8 := by kernel_rfl
@[simp] theorem T_z17 : zT Try.prog 17 = some [.nilptr] := by kernel_rfl
@[simp] theorem T_sz18 : szT Try.prog 18 = 1 := by kernel_rfl
@[simp] theorem T_ag18 : aggT Try.prog 18 = some true := by kernel_rfl
@[simp] theorem T_el18 : elT Try.prog 18 = none := by kernel_rfl
@[simp] theorem T_ar18 : arrT Try.prog 18 = none := by kernel_rfl
@[simp] theorem T_by18 : byT Try.prog 18 = 8 := by kernel_rfl
@[simp] theorem T_f18_0 : fldT Try.prog 18 0 = some (0, 17) := by kernel_rfl
@[simp] theorem T_if18 : infoAll Try.prog 18 = true := by kernel_rfl
@[simp] theorem T_z18 : zT Try.prog 18 = some [.nilptr] := by kernel_rfl
@[simp] theorem T_sz19 : szT Try.prog 19 = 1 := by kernel_rfl
@[simp] theorem T_ag19 : aggT Try.prog 19 = some true := by kernel_rfl
@[simp] theorem T_el19 : elT Try.prog 19 = none := by kernel_rfl
@[simp] theorem T_ar19 : arrT Try.prog 19 = none := by kernel_rfl
@[simp] theorem T_by19 : byT Try.prog 19 = 8 := by kernel_rfl
@[simp] theorem T_f19_0 : fldT Try.prog 19 0 = some (0, 17) := by kernel_rfl
@[simp] theorem T_if19 : infoAll Try.prog 19 = true := by kernel_rfl
@[simp] theorem T_z19 : zT Try.prog 19 = some [.nilptr] := by kernel_rfl
@[simp] theorem T_sz21 : szT Try.prog 21 = 1 := by kernel_rfl
@[simp] theorem T_ag21 : aggT Try.prog 21 = some false := by kernel_rfl
@[simp] theorem T_el21 : elT Try.prog 21 = none := by kernel_rfl
@[simp] theorem T_ar21 : arrT Try.prog 21 = none := by kernel_rfl
@[simp] theorem T_in21 : intT Try.prog 21 = some .i32 := by kernel_rfl
@[simp] theorem T_bo21 : boolT Try.prog 21 = false := by kernel_rfl
@[simp] theorem T_bt21 : byteT Try.prog 21 = false := by kernel_rfl
@[simp] theorem T_by21 : byT Try.prog 21 = 4 := by kernel_rfl
@[simp] theorem T_z21 : zT Try.prog 21 = some [.int .i32 0] := by kernel_rfl
@[simp] theorem T_sz22 : szT Try.prog 22 = 1 := by kernel_rfl
@[simp] theorem T_ag22 : aggT Try.prog 22 = some false := by kernel_rfl
@[simp] theorem T_el22 : elT Try.prog 22 = some 25 := by kernel_rfl
@[simp] theorem T_ar22 : arrT Try.prog 22 = none := by kernel_rfl
@[simp] theorem T_st22 : strT Try.prog 22 = false := by kernel_rfl
@[simp] theorem T_by22 : byT Try.prog 22 = 24 := by kernel_rfl
@[simp] theorem T_z22 : zT Try.prog 22 = some [.slice 1 true []] := by kernel_rfl
@[simp] theorem T_sz23 : szT Try.prog 23 = 1 := by kernel_rfl
@[simp] theorem T_ag23 : aggT Try.prog 23 = some false := by kernel_rfl
@[simp] theorem T_sz24 : szT Try.prog 24 = 1 := by kernel_rfl
@[simp] theorem T_ag24 : aggT Try.prog 24 = some false := by kernel_rfl
@[simp] theorem T_sz25 : szT Try.prog 25 = 1 := by kernel_rfl
@[simp] theorem T_ag25 : aggT Try.prog 25 = some false := by kernel_rfl
@[simp] theorem T_el25 : elT Try.prog 25 = some 3 := by kernel_rfl
@[simp] theorem T_ar25 : arrT Try.prog 25 = none := by kernel_rfl
@[simp] theorem T_st25 : strT Try.prog 25 = false := by kernel_rfl
@[simp] theorem T_by25 : byT Try.prog 25 = 24 := by kernel_rfl
@[simp] theorem T_z25 : zT Try.prog 25 = some [.slice 1 true []] := by kernel_rfl
@[simp] theorem T_sz27 : szT Try.prog 27 = 1 := by kernel_rfl
@[simp] theorem T_ag27 : aggT Try.prog 27 = some false := by kernel_rfl
@[simp] theorem T_sz28 : szT Try.prog 28 = 1 := by kernel_rfl
@[simp] theorem T_ag28 : aggT Try.prog 28 = some false := by kernel_rfl
@[simp] theorem T_sz29 : szT Try.prog 29 = 1 := by kernel_rfl
@[simp] theorem T_ag29 : aggT Try.prog 29 = some false := by kernel_rfl
@[simp] theorem T_sz30 : szT Try.prog 30 = 1 := by kernel_rfl
@[simp] theorem T_ag30 : aggT Try.prog 30 = some false := by kernel_rfl
@[simp] theorem T_sz31 : szT Try.prog 31 = 1 := by kernel_rfl
@[simp] theorem T_ag31 : aggT Try.prog 31 = some false := by kernel_rfl
@[simp] theorem T_el31 : elT Try.prog 31 = some 36 := by kernel_rfl
@[simp] theorem T_ar31 : arrT Try.prog 31 = none := by kernel_rfl
@[simp] theorem T_st31 : strT Try.prog 31 = false := by kernel_rfl
@[simp] theorem T_by31 : byT Try.prog 31 = 24 := by kernel_rfl
@[simp] theorem T_z31 : zT Try.prog 31 = some [.slice 2 true []] := by kernel_rfl
@[simp] theorem T_sz32 : szT Try.prog 32 = 1 := by kernel_rfl
@[simp] theorem T_ag32 : aggT Try.prog 32 = some false := by kernel_rfl
@[simp] theorem T_sz33 : szT Try.prog 33 = 1 := by kernel_rfl
@[simp] theorem T_ag33 : aggT Try.prog 33 = some false := by kernel_rfl
@[simp] theorem T_el33 : elT Try.prog 33 = none := by kernel_rfl
@[simp] theorem T_ar33 : arrT Try.prog 33 = none := by kernel_rfl
@[simp] theorem T_in33 : intT Try.prog 33 = some .i64 := by kernel_rfl
@[simp] theorem T_bo33 : boolT Try.prog 33 = false := by kernel_rfl
@[simp] theorem T_bt33 : byteT Try.prog 33 = false := by kernel_rfl
@[simp] theorem T_by33 : byT Try.prog 33 = 8 := by kernel_rfl
@[simp] theorem T_z33 : zT Try.prog 33 = some [.int .i64 0] := by kernel_rfl
@[simp] theorem T_sz34 : szT Try.prog 34 = 1 := by kernel_rfl
@[simp] theorem T_ag34 : aggT Try.prog 34 = some false := by kernel_rfl
@[simp] theorem T_sz35 : szT Try.prog 35 = 2 := by kernel_rfl
@[simp] theorem T_ag35 : aggT Try.prog 35 = some true := by kernel_rfl
@[simp] theorem T_el35 : elT Try.prog 35 = none := by kernel_rfl
@[simp] theorem T_ar35 : arrT Try.prog 35 = none := by kernel_rfl
@[simp] theorem T_by35 : byT Try.prog 35 = 32 := by kernel_rfl
@[simp] theorem T_f35_0 : fldT Try.prog 35 0 = some (0, 3) := by kernel_rfl
@[simp] theorem T_f35_1 : fldT Try.prog 35 1 = some (1, 22) := by kernel_rfl
@[simp] theorem T_if35 : infoAll Try.prog 35 = true := by kernel_rfl
@[simp] theorem T_z35 : zT Try.prog 35 = some [.int .i64 0, .slice 1 true []] := by kernel_rfl
@[simp] theorem T_sz36 : szT Try.prog 36 = 2 := by kernel_rfl
@[simp] theorem T_ag36 : aggT Try.prog 36 = some true := by kernel_rfl
@[simp] theorem T_el36 : elT Try.prog 36 = none := by kernel_rfl
@[simp] theorem T_ar36 : arrT Try.prog 36 = none := by kernel_rfl
@[simp] theorem T_by36 : byT Try.prog 36 = 32 := by kernel_rfl
@[simp] theorem T_f36_0 : fldT Try.prog 36 0 = some (0, 3) := by kernel_rfl
@[simp] theorem T_f36_1 : fldT Try.prog 36 1 = some (1, 22) := by kernel_rfl
@[simp] theorem T_if36 : infoAll Try.prog 36 = true := by kernel_rfl
@[simp] theorem T_z36 : zT Try.prog 36 = some [.int .i64 0, .slice 1 true []] := by kernel_rfl
@[simp] theorem T_sz37 : szT Try.prog 37 = 1 := by kernel_rfl
@[simp] theorem T_ag37 : aggT Try.prog 37 = some false := by kernel_rfl
@[simp] theorem T_sz38 : szT Try.prog 38 = 3 := by kernel_rfl
@[simp] theorem T_ag38 : aggT Try.prog 38 = some true := by kernel_rfl
@[simp] theorem T_el38 : elT Try.prog 38 = none := by kernel_rfl
@[simp] theorem T_ar38 : arrT Try.prog 38 = none := by kernel_rfl
@[simp] theorem T_by38 : byT Try.prog 38 = 72 := by kernel_rfl
@[simp] theorem T_f38_0 : fldT Try.prog 38 0 = some (0, 25) := by kernel_rfl
@[simp] theorem T_f38_1 : fldT Try.prog 38 1 = some (1, 25) := by kernel_rfl
@[simp] theorem T_f38_2 : fldT Try.prog 38 2 = some (2, 25) := by kernel_rfl
@[simp] theorem T_if38 : infoAll Try.prog 38 = true := by kernel_rfl
@[simp] theorem T_z38 : zT Try.prog 38 = some [.slice 1 true [], .slice 1 true [], .slice 1 true []] := by kernel_rfl
@[simp] theorem T_sz39 : szT Try.prog 39 = 3 := by kernel_rfl
@[simp] theorem T_ag39 : aggT Try.prog 39 = some true := by kernel_rfl
@[simp] theorem T_el39 : elT Try.prog 39 = none := by kernel_rfl
@[simp] theorem T_ar39 : arrT Try.prog 39 = none := by kernel_rfl
@[simp] theorem T_by39 : byT Try.prog 39 = 72 := by kernel_rfl
@[simp] theorem T_f39_0 : fldT Try.prog 39 0 = some (0, 25) := by kernel_rfl
@[simp] theorem T_f39_1 : fldT Try.prog 39 1 = some (1, 25) := by kernel_rfl
@[simp] theorem T_f39_2 : fldT Try.prog 39 2 = some (2, 25) := by kernel_rfl
@[simp] theorem T_if39 : infoAll Try.prog 39 = true := by kernel_rfl
@[simp] theorem T_z39 : zT Try.prog 39 = some [.slice 1 true [], .slice 1 true [], .slice 1 true []] := by kernel_rfl
@[simp] theorem T_sz41 : szT Try.prog 41 = 1 := by kernel_rfl
@[simp] theorem T_ag41 : aggT Try.prog 41 = some false := by kernel_rfl
@[simp] theorem T_sz42 : szT Try.prog 42 = 1 := by kernel_rfl
@[simp] theorem T_ag42 : aggT Try.prog 42 = some false := by kernel_rfl
@[simp] theorem T_sz43 : szT Try.prog 43 = 1 := by kernel_rfl
@[simp] theorem T_ag43 : aggT Try.prog 43 = some false := by kernel_rfl
@[simp] theorem T_sz44 : szT Try.prog 44 = 1 := by kernel_rfl
@[simp] theorem T_ag44 : aggT Try.prog 44 = some false := by kernel_rfl
@[simp] theorem T_sz45 : szT Try.prog 45 = 1 := by kernel_rfl
@[simp] theorem T_ag45 : aggT Try.prog 45 = some false := by kernel_rfl
@[simp] theorem T_sz46 : szT Try.prog 46 = 1 := by kernel_rfl
@[simp] theorem T_ag46 : aggT Try.prog 46 = some false := by kernel_rfl
@[simp] theorem T_sz47 : szT Try.prog 47 = 1 := by kernel_rfl
@[simp] theorem T_ag47 : aggT Try.prog 47 = some false := by kernel_rfl
@[simp] theorem T_sz48 : szT Try.prog 48 = 1 := by kernel_rfl
@[simp] theorem T_ag48 : aggT Try.prog 48 = some false := by kernel_rfl
@[simp] theorem T_sz49 : szT Try.prog 49 = 1 := by kernel_rfl
@[simp] theorem T_ag49 : aggT Try.prog 49 = some false := by kernel_rfl
@[simp] theorem T_sz50 : szT Try.prog 50 = 1 := by kernel_rfl
@[simp] theorem T_ag50 : aggT Try.prog 50 = some false := by kernel_rfl
@[simp] theorem T_sz51 : szT Try.prog 51 = 1 := by kernel_rfl
@[simp] theorem T_ag51 : aggT Try.prog 51 = some false := by kernel_rfl
@[simp] theorem T_sz52 : szT Try.prog 52 = 1 := by kernel_rfl
@[simp] theorem T_ag52 : aggT Try.prog 52 = some false := by kernel_rfl
@[simp] theorem T_sz53 : szT Try.prog 53 = 1 := by kernel_rfl
@[simp] theorem T_ag53 : aggT Try.prog 53 = some false := by kernel_rfl
@[simp] theorem T_sz54 : szT Try.prog 54 = 1 := by kernel_rfl
@[simp] theorem T_ag54 : aggT Try.prog 54 = some false := by kernel_rfl
@[simp] theorem T_el54 : elT Try.prog 54 = none := by kernel_rfl
@[simp] theorem T_ar54 : arrT Try.prog 54 = none := by kernel_rfl
@[simp] theorem T_st54 : strT Try.prog 54 = false := by kernel_rfl
@[simp] theorem T_pt54 : ptrT Try.prog 54 = true := by kernel_rfl
@[simp] theorem T_by54 : byT Try.prog 54 = 8 := by kernel_rfl
@[simp] theorem T_z54 : zT Try.prog 54 = some [.nilptr] := by kernel_rfl
@[simp] theorem T_sz55 : szT Try.prog 55 = 1 := by kernel_rfl
@[simp] theorem T_ag55 : aggT Try.prog 55 = some false := by kernel_rfl
@[simp] theorem T_sz56 : szT Try.prog 56 = 1 := by kernel_rfl
@[simp] theorem T_ag56 : aggT Try.prog 56 = some false := by kernel_rfl
@[simp] theorem T_sz57 : szT Try.prog 57 = 1 := by kernel_rfl
@[simp] theorem T_ag57 : aggT Try.prog 57 = some false := by kernel_rfl
@[simp] theorem T_el57 : elT Try.prog 57 = some 75 := by kernel_rfl
@[simp] theorem T_ar57 : arrT Try.prog 57 = none := by kernel_rfl
@[simp] theorem T_st57 : strT Try.prog 57 = false := by kernel_rfl
@[simp] theorem T_by57 : byT Try.prog 57 = 24 := by kernel_rfl
@[simp] theorem T_z57 : zT Try.prog 57 = some [.slice 1 true []] := by kernel_rfl
@[simp] theorem T_sz58 : szT Try.prog 58 = 7 := by kernel_rfl
@[simp] theorem T_ag58 : aggT Try.prog 58 = some true := by kernel_rfl
@[simp] theorem T_el58 : elT Try.prog 58 = none := by kernel_rfl
@[simp] theorem T_ar58 : arrT Try.prog 58 = none := by kernel_rfl
@[simp] theorem T_by58 : byT Try.prog 58 = 152 := by kernel_rfl
@[simp] theorem T_f58_0 : fldT Try.prog 58 0 = some (0, 3) := by kernel_rfl
@[simp] theorem T_f58_1 : fldT Try.prog 58 1 = some (1, 57) := by kernel_rfl
@[simp] theorem T_f58_2 : fldT Try.prog 58 2 = some (2, 25) := by kernel_rfl
@[simp] theorem T_f58_3 : fldT Try.prog 58 3 = some (3, 22) := by kernel_rfl
@[simp] theorem T_f58_4 : fldT Try.prog 58 4 = some (4, 39) := by kernel_rfl
@[simp] theorem T_if58 : infoAll Try.prog 58 = true := by kernel_rfl
@[simp] theorem T_z58 : zT Try.prog 58 = some [.int .i64 0, .slice 1 true [], .slice 1 true [], .slice 1 true [], .slice 1 true [], .slice 1 true [], .slice 1 true []] := by kernel_rfl
@[simp] theorem T_sz59 : szT Try.prog 59 = 7 := by kernel_rfl
@[simp] theorem T_ag59 : aggT Try.prog 59 = some true := by kernel_rfl
@[simp] theorem T_el59 : elT Try.prog 59 = none := by kernel_rfl
@[simp] theorem T_ar59 : arrT Try.prog 59 = none := by kernel_rfl
@[simp] theorem T_by59 : byT Try.prog 59 = 152 := by kernel_rfl
@[simp] theorem T_f59_0 : fldT Try.prog 59 0 = some (0, 3) := by kernel_rfl
@[simp] theorem T_f59_1 : fldT Try.prog 59 1 = some (1, 57) := by kernel_rfl
@[simp] theorem T_f59_2 : fldT Try.prog 59 2 = some (2, 25) := by kernel_rfl
@[simp] theorem T_f59_3 : fldT Try.prog 59 3 = some (3, 22) := by kernel_rfl
@[simp] theorem T_f59_4 : fldT Try.prog 59 4 = some (4, 39) := by kernel_rfl
@[simp] theorem T_if59 : infoAll Try.prog 59 = true := by kernel_rfl
@[simp] theorem T_z59 : zT Try.prog 59 = some [.int .i64 0, .slice 1 true [], .slice 1 true [], .slice 1 true [], .slice 1 true [], .slice 1 true [], .slice 1 true []] := by kernel_rfl
@[simp] theorem T_sz60 : szT Try.prog 60 = 4 := by kernel_rfl
@[simp] theorem T_ag60 : aggT Try.prog 60 = some true := by kernel_rfl
@[simp] theorem T_el60 : elT Try.prog 60 = none := by kernel_rfl
@[simp] theorem T_ar60 : arrT Try.prog 60 = none := by kernel_rfl
@[simp] theorem T_by60 : byT Try.prog 60 = 96 := by kernel_rfl
@[simp] theorem T_f60_0 : fldT Try.prog 60 0 = some (0, 22) := by kernel_rfl
@[simp] theorem T_f60_1 : fldT Try.prog 60 1 = some (1, 39) := by kernel_rfl
@[simp] theorem T_if60 : infoAll Try.prog 60 = true := by kernel_rfl
@[simp] theorem T_z60 : zT Try.prog 60 = some [.slice 1 true [], .slice 1 true [], .slice 1 true [], .slice 1 true []] := by kernel_rfl
@[simp] theorem T_sz61 : szT Try.prog 61 = 4 := by kernel_rfl
@[simp] theorem T_ag61 : aggT Try.prog 61 = some true := by kernel_rfl
@[simp] theorem T_el61 : elT Try.prog 61 = none := by kernel_rfl
@[simp] theorem T_ar61 : arrT Try.prog 61 = none := by kernel_rfl
@[simp] theorem T_by61 : byT Try.prog 61 = 96 := by kernel_rfl
@[simp] theorem T_f61_0 : fldT Try.prog 61 0 = some (0, 22) := by kernel_rfl
@[simp] theorem T_f61_1 : fldT Try.prog 61 1 = some (1, 39) := by kernel_rfl
@[simp] theorem T_if61 : infoAll Try.prog 61 = true := by kernel_rfl
@[simp] theorem T_z61 : zT Try.prog 61 = some [.slice 1 true [], .slice 1 true [], .slice 1 true [], .slice 1 true []] := by kernel_rfl
@[simp] theorem T_sz62 : szT Try.prog 62 = 1 := by kernel_rfl
@[simp] theorem T_ag62 : aggT Try.prog 62 = some false := by kernel_rfl
@[simp] theorem T_sz63 : szT Try.prog 63 = 1 := by kernel_rfl
@[simp] theorem T_ag63 : aggT Try.prog 63 = some false := by kernel_rfl
@[simp] theorem T_sz64 : szT Try.prog 64 = 1 := by kernel_rfl
@[simp] theorem T_ag64 : aggT Try.prog 64 = some false := by kernel_rfl
@[simp] theorem T_sz65 : szT Try.prog 65 = 1 := by kernel_rfl
@[simp] theorem T_ag65 : aggT Try.prog 65 = some false := by kernel_rfl
@[simp] theorem T_sz67 : szT Try.prog 67 = 1 := by kernel_rfl
@[simp] theorem T_ag67 : aggT Try.prog 67 = some false := by kernel_rfl
@[simp] theorem T_sz68 : szT Try.prog 68 = 1 := by kernel_rfl
@[simp] theorem T_ag68 : aggT Try.prog 68 = some false := by kernel_rfl
@[simp] theorem T_sz69 : szT Try.prog 69 = 1 := by kernel_rfl
@[simp] theorem T_ag69 : aggT Try.prog 69 = some false := by kernel_rfl
@[simp] theorem T_sz70 : szT Try.prog 70 = 1 := by kernel_rfl
@[simp] theorem T_ag70 : aggT Try.prog 70 = some false := by kernel_rfl
@[simp] theorem T_el70 : elT Try.prog 70 = some 88 := by kernel_rfl
@[simp] theorem T_ar70 : arrT Try.prog 70 = none := by kernel_rfl
@[simp] theorem T_st70 : strT Try.prog 70 = false := by kernel_rfl
@[simp] theorem T_by70 : byT Try.prog 70 = 24 := by kernel_rfl
@[simp] theorem T_z70 : zT Try.prog 70 = some [.slice 2 true []] := by kernel_rfl
@[simp] theorem T_sz71 : szT Try.prog 71 = 1 := by kernel_rfl
@[simp] theorem T_ag71 : aggT Try.prog 71 = some true := by kernel_rfl
@[simp] theorem T_el71 : elT Try.prog 71 = none := by kernel_rfl
@[simp] theorem T_ar71 : arrT Try.prog 71 = none := by kernel_rfl
@[simp] theorem T_by71 : byT Try.prog 71 = 24 := by kernel_rfl
@[simp] theorem T_f71_0 : fldT Try.prog 71 0 = some (0, 70) := by kernel_rfl
@[simp] theorem T_if71 : infoAll Try.prog 71 = true := by kernel_rfl
@[simp] theorem T_z71 : zT Try.prog 71 = some [.slice 2 true []] := by kernel_rfl
@[simp] theorem T_sz72 : szT Try.prog 72 = 1 := by kernel_rfl
@[simp] theorem T_ag72 : aggT Try.prog 72 = some true := by kernel_rfl
@[simp] theorem T_el72 : elT Try.prog 72 = none := by kernel_rfl
@[simp] theorem T_ar72 : arrT Try.prog 72 = none := by kernel_rfl
@[simp] theorem T_by72 : byT Try.prog 72 = 24 := by kernel_rfl
@[simp] theorem T_f72_0 : fldT Try.prog 72 0 = some (0, 70) := by kernel_rfl
@[simp] theorem T_if72 : infoAll Try.prog 72 = true := by kernel_rfl
@[simp] theorem T_z72 : zT Try.prog 72 = some [.slice 2 true []] := by kernel_rfl
@[simp] theorem T_sz74 : szT Try.prog 74 = 1 := by kernel_rfl
@[simp] theorem T_ag74 : aggT Try.prog 74 = some false := by kernel_rfl
@[simp] theorem T_sz75 : szT Try.prog 75 = 1 := by kernel_rfl
@[simp] theorem T_ag75 : aggT Try.prog 75 = some false := by kernel_rfl
@[simp] theorem T_el75 : elT Try.prog 75 = none := by kernel_rfl
@[simp] theorem T_ar75 : arrT Try.prog 75 = none := by kernel_rfl
@[simp] theorem T_st75 : strT Try.prog 75 = false := by kernel_rfl
@[simp] theorem T_pt75 : ptrT Try.prog 75 = true := by kernel_rfl
@[simp] theorem T_by75 : byT Try.prog 75 = 8 := by kernel_rfl
@[simp] theorem T_z75 : zT Try.prog 75 = some [.nilptr] := by kernel_rfl
@[simp] theorem T_sz76 : szT Try.prog 76 = 3 := by kernel_rfl
@[simp] theorem T_ag76 : aggT Try.prog 76 = some true := by kernel_rfl
@[simp] theorem T_el76 : elT Try.prog 76 = none := by kernel_rfl
@[simp] theorem T_ar76 : arrT Try.prog 76 = none := by kernel_rfl
@[simp] theorem T_by76 : byT Try.prog 76 = 72 := by kernel_rfl
@[simp] theorem T_f76_0 : fldT Try.prog 76 0 = some (0, 72) := by kernel_rfl
@[simp] theorem T_f76_1 : fldT Try.prog 76 1 = some (1, 25) := by kernel_rfl
@[simp] theorem T_f76_2 : fldT Try.prog 76 2 = some (2, 25) := by kernel_rfl
@[simp] theorem T_if76 : infoAll Try.prog 76 = true := by kernel_rfl
@[simp] theorem T_z76 : zT Try.prog 76 = some [.slice 2 true [], .slice 1 true [], .slice 1 true []] := by kernel_rfl
@[simp] theorem T_sz77 : szT Try.prog 77 = 3 := by kernel_rfl
@[simp] theorem T_ag77 : aggT Try.prog 77 = some true := by kernel_rfl
@[simp] theorem T_el77 : elT Try.prog 77 = none := by kernel_rfl
@[simp] theorem T_ar77 : arrT Try.prog 77 = none := by kernel_rfl
@[simp] theorem T_by77 : byT Try.prog 77 = 72 := by kernel_rfl
@[simp] theorem T_f77_0 : fldT Try.prog 77 0 = some (0, 72) := by kernel_rfl
@[simp] theorem T_f77_1 : fldT Try.prog 77 1 = some (1, 25) := by kernel_rfl
@[simp] theorem T_f77_2 : fldT Try.prog 77 2 = some (2, 25) := by kernel_rfl
@[simp] theorem T_if77 : infoAll Try.prog 77 = true := by kernel_rfl
@[simp] theorem T_z77 : zT Try.prog 77 = some [.slice 2 true [], .slice 1 true [], .slice 1 true []] := by kernel_rfl
@[simp] theorem T_sz78 : szT Try.prog 78 = 1 := by kernel_rfl
@[simp] theorem T_ag78 : aggT Try.prog 78 = some false := by kernel_rfl
@[simp] theorem T_sz79 : szT Try.prog 79 = 1 := by kernel_rfl
@[simp] theorem T_ag79 : aggT Try.prog 79 = some false := by kernel_rfl
@[simp] theorem T_sz80 : szT Try.prog 80 = 1 := by kernel_rfl
@[simp] theorem T_ag80 : aggT Try.prog 80 = some false := by kernel_rfl
@[simp] theorem T_sz81 : szT Try.prog 81 = 1 := by kernel_rfl
@[simp] theorem T_ag81 : aggT Try.prog 81 = some false := by kernel_rfl
@[simp] theorem T_sz82 : szT Try.prog 82 = 1 := by kernel_rfl
@[simp] theorem T_ag82 : aggT Try.prog 82 = some false := by kernel_rfl
@[simp] theorem T_sz83 : szT Try.prog 83 = 1 := by kernel_rfl
@[simp] theorem T_ag83 : aggT Try.prog 83 = some false := by kernel_rfl
@[simp] theorem T_sz84 : szT Try.prog 84 = 1 := by kernel_rfl
@[simp] theorem T_ag84 : aggT Try.prog 84 = some false := by kernel_rfl
@[simp] theorem T_el84 : elT Try.prog 84 = none := by kernel_rfl
@[simp] theorem T_ar84 : arrT Try.prog 84 = none := by kernel_rfl
@[simp] theorem T_in84 : intT Try.prog 84 = some .u64 := by kernel_rfl
@[simp] theorem T_bo84 : boolT Try.prog 84 = false := by kernel_rfl
@[simp] theorem T_bt84 : byteT Try.prog 84 = false := by kernel_rfl
@[simp] theorem T_by84 : byT Try.prog 84 = 8 := by kernel_rfl
@[simp] theorem T_z84 : zT Try.prog 84 = some [.int .u64 0] := by kernel_rfl
@[simp] theorem T_sz85 : szT Try.prog 85 = 1 := by kernel_rfl
@[simp] theorem T_ag85 : aggT Try.prog 85 = some false := by kernel_rfl
@[simp] theorem T_sz86 : szT Try.prog 86 = 1 := by kernel_rfl
@[simp] theorem T_ag86 : aggT Try.prog 86 = some false := by kernel_rfl
@[simp] theorem T_sz87 : szT Try.prog 87 = 2 := by kernel_rfl
@[simp] theorem T_ag87 : aggT Try.prog 87 = some true := by kernel_rfl
@[simp] theorem T_el87 : elT Try.prog 87 = none := by kernel_rfl
@[simp] theorem T_ar87 : arrT Try.prog 87 = none := by kernel_rfl
@[simp] theorem T_by87 : byT Try.prog 87 = 48 := by kernel_rfl
@[simp] theorem T_f87_0 : fldT Try.prog 87 0 = some (0, 25) := by kernel_rfl
@[simp] theorem T_f87_1 : fldT Try.prog 87 1 = some (1, 25) := by kernel_rfl
@[simp] theorem T_if87 : infoAll Try.prog 87 = true := by kernel_rfl
@[simp] theorem T_z87 : zT Try.prog 87 = some [.slice 1 true [], .slice 1 true []] := by kernel_rfl
@[simp] theorem T_sz88 : szT Try.prog 88 = 2 := by kernel_rfl
@[simp] theorem T_ag88 : aggT Try.prog 88 = some true := by kernel_rfl
@[simp] theorem T_el88 : elT Try.prog 88 = none := by kernel_rfl
@[simp] theorem T_ar88 : arrT Try.prog 88 = none := by kernel_rfl
@[simp] theorem T_by88 : byT Try.prog 88 = 48 := by kernel_rfl
@[simp] theorem T_f88_0 : fldT Try.prog 88 0 = some (0, 25) := by kernel_rfl
@[simp] theorem T_f88_1 : fldT Try.prog 88 1 = some (1, 25) := by kernel_rfl
@[simp] theorem T_if88 : infoAll Try.prog 88 = true := by kernel_rfl
@[simp] theorem T_z88 : zT Try.prog 88 = some [.slice 1 true [], .slice 1 true []] := by kernel_rfl
@[simp] theorem T_sz89 : szT Try.prog 89 = 1 := by kernel_rfl
@[simp] theorem T_ag89 : aggT Try.prog 89 = some false := by kernel_rfl
@[simp] theorem T_sz91 : szT Try.prog 91 = 1 := by kernel_rfl
@[simp] theorem T_ag91 : aggT Try.prog 91 = some false := by kernel_rfl
@[simp] theorem T_sz92 : szT Try.prog 92 = 1 := by kernel_rfl
@[simp] theorem T_ag92 : aggT Try.prog 92 = some false := by kernel_rfl
@[simp] theorem T_sz93 : szT Try.prog 93 = 1 := by kernel_rfl
@[simp] theorem T_ag93 : aggT Try.prog 93 = some false := by kernel_rfl
@[simp] theorem T_sz94 : szT Try.prog 94 = 1 := by kernel_rfl
@[simp] theorem T_ag94 : aggT Try.prog 94 = some false := by kernel_rfl
@[simp] theorem T_el94 : elT Try.prog 94 = none := by kernel_rfl
@[simp] theorem T_ar94 : arrT Try.prog 94 = none := by kernel_rfl
@[simp] theorem T_in94 : intT Try.prog 94 = some .i64 := by kernel_rfl
@[simp] theorem T_bo94 : boolT Try.prog 94 = false := by kernel_rfl
@[simp] theorem T_bt94 : byteT Try.prog 94 = false := by kernel_rfl
@[simp] theorem T_by94 : byT Try.prog 94 = 8 := by kernel_rfl
@[simp] theorem T_z94 : zT Try.prog 94 = some [.int .i64 0] := by kernel_rfl
@[simp] theorem T_sz96 : szT Try.prog 96 = 1 := by kernel_rfl
@[simp] theorem T_ag96 : aggT Try.prog 96 = some false := by kernel_rfl
@[simp] theorem T_sz97 : szT Try.prog 97 = 1 := by kernel_rfl
@[simp] theorem T_ag97 : aggT Try.prog 97 = some false := by kernel_rfl
@[simp] theorem T_sz98 : szT Try.prog 98 = 1 := by kernel_rfl
@[simp] theorem T_ag98 : aggT Try.prog 98 = some false := by kernel_rfl
@[simp] theorem T_sz99 : szT Try.prog 99 = 1 := by kernel_rfl
@[simp] theorem T_ag99 : aggT Try.prog 99 = some false := by kernel_rfl
@[simp] theorem T_sz100 : szT Try.prog 100 = 1 := by kernel_rfl
@[simp] theorem T_ag100 : aggT Try.prog 100 = some false := by kernel_rfl
@[simp] theorem T_sz101 : szT Try.prog 101 = 1 := by kernel_rfl
@[simp] theorem T_ag101 : aggT Try.prog 101 = some false := by kernel_rfl
@[simp] theorem T_el101 : elT Try.prog 101 = none := by kernel_rfl
@[simp] theorem T_ar101 : arrT Try.prog 101 = none := by kernel_rfl
@[simp] theorem T_in101 : intT Try.prog 101 = some .u32 := by kernel_rfl
@[simp] theorem T_bo101 : boolT Try.prog 101 = false := by kernel_rfl
@[simp] theorem T_bt101 : byteT Try.prog 101 = false := by kernel_rfl
@[simp] theorem T_by101 : byT Try.prog 101 = 4 := by kernel_rfl
@[simp] theorem T_z101 : zT Try.prog 101 = some [.int .u32 0] := by kernel_rfl
@[simp] theorem T_sz102 : szT Try.prog 102 = 1 := by kernel_rfl
@[simp] theorem T_ag102 : aggT Try.prog 102 = some false := by kernel_rfl
@[simp] theorem T_sz103 : szT Try.prog 103 = 1 := by kernel_rfl
@[simp] theorem T_ag103 : aggT Try.prog 103 = some false := by kernel_rfl
@[simp] theorem T_el103 : elT Try.prog 103 = none := by kernel_rfl
@[simp] theorem T_ar103 : arrT Try.prog 103 = none := by kernel_rfl
@[simp] theorem T_in103 : intT Try.prog 103 = some .u64 := by kernel_rfl
@[simp] theorem T_bo103 : boolT Try.prog 103 = false := by kernel_rfl
@[simp] theorem T_bt103 : byteT Try.prog 103 = false := by kernel_rfl
@[simp] theorem T_by103 : byT Try.prog 103 = 8 := by kernel_rfl
@[simp] theorem T_z103 : zT Try.prog 103 = some [.int .u64 0] := by kernel_rfl
@[simp] theorem T_sz104 : szT Try.prog 104 = 1 := by kernel_rfl
@[simp] theorem T_ag104 : aggT Try.prog 104 = some false := by kernel_rfl
@[simp] theorem T_el104 : elT Try.prog 104 = none := by kernel_rfl
@[simp] theorem T_ar104 : arrT Try.prog 104 = none := by kernel_rfl
@[simp] theorem T_in104 : intT Try.prog 104 = some .u64 := by kernel_rfl
@[simp] theorem T_bo104 : boolT Try.prog 104 = false := by kernel_rfl
@[simp] theorem T_bt104 : byteT Try.prog 104 = false := by kernel_rfl
@[simp] theorem T_by104 : byT Try.prog 104 = 8 := by kernel_rfl
@[simp] theorem T_z104 : zT Try.prog 104 = some [.int .u64 0] := by kernel_rfl
@[simp] theorem T_sz105 : szT Try.prog 105 = 1 := by kernel_rfl
@[simp] theorem T_ag105 : aggT Try.prog 105 = some false := by kernel_rfl
@[simp] theorem T_sz106 : szT Try.prog 106 = 1 := by kernel_rfl
@[simp] theorem T_ag106 : aggT Try.prog 106 = some false := by kernel_rfl
@[simp] theorem T_sz107 : szT Try.prog 107 = 1 := by kernel_rfl
@[simp] theorem T_ag107 : aggT Try.prog 107 = some false := by kernel_rfl
@[simp] theorem T_sz108 : szT Try.prog 108 = 1 := by kernel_rfl
@[simp] theorem T_ag108 : aggT Try.prog 108 = some false := by kernel_rfl
@[simp] theorem T_el108 : elT Try.prog 108 = none := by kernel_rfl
@[simp] theorem T_ar108 : arrT Try.prog 108 = none := by kernel_rfl
@[simp] theorem T_st108 : strT Try.prog 108 = false := by kernel_rfl
@[simp] theorem T_pt108 : ptrT Try.prog 108 = true := by kernel_rfl
@[simp] theorem T_by108 : byT Try.prog 108 = 8 := by kernel_rfl
@[simp] theorem T_z108 : zT Try.prog 108 = some [.nilptr] := by kernel_rfl
@[simp] theorem T_sz109 : szT Try.prog 109 = 1 := by kernel_rfl
@[simp] theorem T_ag109 : aggT Try.prog 109 = some false := by kernel_rfl
@[simp] theorem T_sz110 : szT Try.prog 110 = 1 := by kernel_rfl
@[simp] theorem T_ag110 : aggT Try.prog 110 = some false := by kernel_rfl
@[simp] theorem T_el110 : elT Try.prog 110 = none := by kernel_rfl
@[simp] theorem T_ar110 : arrT Try.prog 110 = none := by kernel_rfl
@[simp] theorem T_st110 : strT Try.prog 110 = false := by kernel_rfl
@[simp] theorem T_pt110 : ptrT Try.prog 110 = true := by kernel_rfl
@[simp] theorem T_by110 : byT Try.prog 110 = 8 := by kernel_rfl
@[simp] theorem T_z110 : zT Try.prog 110 = some [.nilptr] := by kernel_rfl
@[simp] theorem T_sz111 : szT Try.prog 111 = 1 := by kernel_rfl
@[simp] theorem T_ag111 : aggT Try.prog 111 = some false := by kernel_rfl
@[simp] theorem T_sz112 : szT Try.prog 112 = 1 := by kernel_rfl
@[simp] theorem T_ag112 : aggT Try.prog 112 = some false := by kernel_rfl
@[simp] theorem T_sz113 : szT Try.prog 113 = 4 := by kernel_rfl
@[simp] theorem T_ag113 : aggT Try.prog 113 = some true := by kernel_rfl
@[simp] theorem T_el113 : elT Try.prog 113 = none := by kernel_rfl
@[simp] theorem T_ar113 : arrT Try.prog 113 = none := by kernel_rfl
@[simp] theorem T_by113 : byT Try.prog 113 = 40 := by kernel_rfl
@[simp] theorem T_f113_0 : fldT Try.prog 113 0 = some (0, 17) := by kernel_rfl
@[simp] theorem T_f113_1 : fldT Try.prog 113 1 = some (1, 17) := by kernel_rfl
@[simp] theorem T_f113_2 : fldT Try.prog 113 2 = some (2, 17) := by kernel_rfl
@[simp] theorem T_f113_3 : fldT Try.prog 113 3 = some (3, 9) := by kernel_rfl
@[simp] theorem T_if113 : infoAll Try.prog 113 = true := by kernel_rfl
@[simp] theorem T_z113 : zT Try.prog 113 = some [.nilptr, .nilptr, .nilptr, .str ByteArray.empty] := by kernel_rfl
@[simp] theorem T_sz114 : szT Try.prog 114 = 4 := by kernel_rfl
@[simp] theorem T_ag114 : aggT Try.prog 114 = some true := by kernel_rfl
@[simp] theorem T_el114 : elT Try.prog 114 = none := by kernel_rfl
@[simp] theorem T_ar114 : arrT Try.prog 114 = none := by kernel_rfl
@[simp] theorem T_by114 : byT Try.prog 114 = 40 := by kernel_rfl
@[simp] theorem T_f114_0 : fldT Try.prog 114 0 = some (0, 17) := by kernel_rfl
@[simp] theorem T_f114_1 : fldT Try.prog 114 1 = some (1, 17) := by kernel_rfl
@[simp] theorem T_f114_2 : fldT Try.prog 114 2 = some (2, 17) := by kernel_rfl
@[simp] theorem T_f114_3 : fldT Try.prog 114 3 = some (3, 9) := by kernel_rfl
@[simp] theorem T_if114 : infoAll Try.prog 114 = true := by kernel_rfl
@[simp] theorem T_z114 : zT Try.prog 114 = some [.nilptr, .nilptr, .nilptr, .str ByteArray.empty] := by kernel_rfl
@[simp] theorem T_sz115 : szT Try.prog 115 = 0 := by kernel_rfl
@[simp] theorem T_ag115 : aggT Try.prog 115 = some true := by kernel_rfl
@[simp] theorem T_el115 : elT Try.prog 115 = none := by kernel_rfl
@[simp] theorem T_ar115 : arrT Try.prog 115 = some (0, 16) := by kernel_rfl
@[simp] theorem T_st115 : strT Try.prog 115 = false := by kernel_rfl
@[simp] theorem T_by115 : byT Try.prog 115 = 0 := by kernel_rfl
@[simp] theorem T_sz116 : szT Try.prog 116 = 0 := by kernel_rfl
@[simp] theorem T_ag116 : aggT Try.prog 116 = some true := by kernel_rfl
@[simp] theorem T_el116 : elT Try.prog 116 = none := by kernel_rfl
@[simp] theorem T_ar116 : arrT Try.prog 116 = none := by kernel_rfl
@[simp] theorem T_by116 : byT Try.prog 116 = 0 := by kernel_rfl
@[simp] theorem T_f116_0 : fldT Try.prog 116 0 = some (0, 115) := by kernel_rfl
@[simp] theorem T_if116 : infoAll Try.prog 116 = true := by kernel_rfl
@[simp] theorem T_sz117 : szT Try.prog 117 = 0 := by kernel_rfl
@[simp] theorem T_ag117 : aggT Try.prog 117 = some true := by kernel_rfl
@[simp] theorem T_el117 : elT Try.prog 117 = none := by kernel_rfl
@[simp] theorem T_ar117 : arrT Try.prog 117 = none := by kernel_rfl
@[simp] theorem T_by117 : byT Try.prog 117 = 0 := by kernel_rfl
@[simp] theorem T_f117_0 : fldT Try.prog 117 0 = some (0, 115) := by kernel_rfl
@[simp] theorem T_if117 : infoAll Try.prog 117 = true := by kernel_rfl
@[simp] theorem T_sz118 : szT Try.prog 118 = 1 := by kernel_rfl
@[simp] theorem T_ag118 : aggT Try.prog 118 = some false := by kernel_rfl
@[simp] theorem T_sz119 : szT Try.prog 119 = 1 := by kernel_rfl
@[simp] theorem T_ag119 : aggT Try.prog 119 = some false := by kernel_rfl
@[simp] theorem T_el119 : elT Try.prog 119 = none := by kernel_rfl
@[simp] theorem T_ar119 : arrT Try.prog 119 = none := by kernel_rfl
@[simp] theorem T_in119 : intT Try.prog 119 = some .u8 := by kernel_rfl
@[simp] theorem T_bo119 : boolT Try.prog 119 = false := by kernel_rfl
@[simp] theorem T_bt119 : byteT Try.prog 119 = true := by kernel_rfl
@[simp] theorem T_by119 : byT Try.prog 119 = 1 := by kernel_rfl
@[simp] theorem T_z119 : zT Try.prog 119 = some [.int .u8 0] := by kernel_rfl
@[simp] theorem T_sz120 : szT Try.prog 120 = 1 := by kernel_rfl
@[simp] theorem T_ag120 : aggT Try.prog 120 = some false := by kernel_rfl
@[simp] theorem T_el120 : elT Try.prog 120 = none := by kernel_rfl
@[simp] theorem T_ar120 : arrT Try.prog 120 = none := by kernel_rfl
@[simp] theorem T_in120 : intT Try.prog 120 = some .u8 := by kernel_rfl
@[simp] theorem T_bo120 : boolT Try.prog 120 = false := by kernel_rfl
@[simp] theorem T_bt120 : byteT Try.prog 120 = true := by kernel_rfl
@[simp] theorem T_by120 : byT Try.prog 120 = 1 := by kernel_rfl
@[simp] theorem T_z120 : zT Try.prog 120 = some [.int .u8 0] := by kernel_rfl
@[simp] theorem T_sz121 : szT Try.prog 121 = 1 := by kernel_rfl
@[simp] theorem T_ag121 : aggT Try.prog 121 = some false := by kernel_rfl
@[simp] theorem T_sz122 : szT Try.prog 122 = 1 := by kernel_rfl
@[simp] theorem T_ag122 : aggT Try.prog 122 = some false := by kernel_rfl
@[simp] theorem T_el122 : elT Try.prog 122 = none := by kernel_rfl
@[simp] theorem T_ar122 : arrT Try.prog 122 = none := by kernel_rfl
@[simp] theorem T_st122 : strT Try.prog 122 = false := by kernel_rfl
@[simp] theorem T_pt122 : ptrT Try.prog 122 = true := by kernel_rfl
@[simp] theorem T_by122 : byT Try.prog 122 = 8 := by kernel_rfl
@[simp] theorem T_z122 : zT Try.prog 122 = some [.nilptr] := by kernel_rfl
@[simp] theorem T_sz123 : szT Try.prog 123 = 1 := by kernel_rfl
@[simp] theorem T_ag123 : aggT Try.prog 123 = some false := by kernel_rfl
@[simp] theorem T_el123 : elT Try.prog 123 = none := by kernel_rfl
@[simp] theorem T_ar123 : arrT Try.prog 123 = none := by kernel_rfl
@[simp] theorem T_in123 : intT Try.prog 123 = some .i32 := by kernel_rfl
@[simp] theorem T_bo123 : boolT Try.prog 123 = false := by kernel_rfl
@[simp] theorem T_bt123 : byteT Try.prog 123 = false := by kernel_rfl
@[simp] theorem T_by123 : byT Try.prog 123 = 4 := by kernel_rfl
@[simp] theorem T_z123 : zT Try.prog 123 = some [.int .i32 0] := by kernel_rfl
@[simp] theorem T_sz124 : szT Try.prog 124 = 1 := by kernel_rfl
@[simp] theorem T_ag124 : aggT Try.prog 124 = some false := by kernel_rfl
@[simp] theorem T_el124 : elT Try.prog 124 = none := by kernel_rfl
@[simp] theorem T_ar124 : arrT Try.prog 124 = none := by kernel_rfl
@[simp] theorem T_in124 : intT Try.prog 124 = some .i32 := by kernel_rfl
@[simp] theorem T_bo124 : boolT Try.prog 124 = false := by kernel_rfl
@[simp] theorem T_bt124 : byteT Try.prog 124 = false := by kernel_rfl
@[simp] theorem T_by124 : byT Try.prog 124 = 4 := by kernel_rfl
@[simp] theorem T_z124 : zT Try.prog 124 = some [.int .i32 0] := by kernel_rfl
@[simp] theorem T_sz125 : szT Try.prog 125 = 11 := by kernel_rfl
@[simp] theorem T_ag125 : aggT Try.prog 125 = some true := by kernel_rfl
@[simp] theorem T_el125 : elT Try.prog 125 = none := by kernel_rfl
@[simp] theorem T_ar125 : arrT Try.prog 125 = none := by kernel_rfl
@[simp] theorem T_by125 : byT Try.prog 125 = 48 := by kernel_rfl
@[simp] theorem T_f125_0 : fldT Try.prog 125 0 = some (0, 12) := by kernel_rfl
@[simp] theorem T_f125_1 : fldT Try.prog 125 1 = some (1, 12) := by kernel_rfl
@[simp] theorem T_f125_2 : fldT Try.prog 125 2 = some (2, 101) := by kernel_rfl
@[simp] theorem T_f125_3 : fldT Try.prog 125 3 = some (3, 119) := by kernel_rfl
@[simp] theorem T_f125_4 : fldT Try.prog 125 4 = some (4, 5) := by kernel_rfl
@[simp] theorem T_f125_5 : fldT Try.prog 125 5 = some (5, 5) := by kernel_rfl
@[simp] theorem T_f125_6 : fldT Try.prog 125 6 = some (6, 120) := by kernel_rfl
@[simp] theorem T_f125_7 : fldT Try.prog 125 7 = some (7, 121) := by kernel_rfl
@[simp] theorem T_f125_8 : fldT Try.prog 125 8 = some (8, 122) := by kernel_rfl
@[simp] theorem T_f125_9 : fldT Try.prog 125 9 = some (9, 123) := by kernel_rfl
@[simp] theorem T_f125_10 : fldT Try.prog 125 10 = some (10, 124) := by kernel_rfl
@[simp] theorem T_if125 : infoAll Try.prog 125 = true := by kernel_rfl
@[simp] theorem T_sz126 : szT Try.prog 126 = 11 := by kernel_rfl
@[simp] theorem T_ag126 : aggT Try.prog 126 = some true := by kernel_rfl
@[simp] theorem T_el126 : elT Try.prog 126 = none := by kernel_rfl
@[simp] theorem T_ar126 : arrT Try.prog 126 = none := by kernel_rfl
@[simp] theorem T_by126 : byT Try.prog 126 = 48 := by kernel_rfl
@[simp] theorem T_f126_0 : fldT Try.prog 126 0 = some (0, 12) := by kernel_rfl
@[simp] theorem T_f126_1 : fldT Try.prog 126 1 = some (1, 12) := by kernel_rfl
@[simp] theorem T_f126_2 : fldT Try.prog 126 2 = some (2, 101) := by kernel_rfl
@[simp] theorem T_f126_3 : fldT Try.prog 126 3 = some (3, 119) := by kernel_rfl
@[simp] theorem T_f126_4 : fldT Try.prog 126 4 = some (4, 5) := by kernel_rfl
@[simp] theorem T_f126_5 : fldT Try.prog 126 5 = some (5, 5) := by kernel_rfl
@[simp] theorem T_f126_6 : fldT Try.prog 126 6 = some (6, 120) := by kernel_rfl
@[simp] theorem T_f126_7 : fldT Try.prog 126 7 = some (7, 121) := by kernel_rfl
@[simp] theorem T_f126_8 : fldT Try.prog 126 8 = some (8, 122) := by kernel_rfl
@[simp] theorem T_f126_9 : fldT Try.prog 126 9 = some (9, 123) := by kernel_rfl
@[simp] theorem T_f126_10 : fldT Try.prog 126 10 = some (10, 124) := by kernel_rfl
@[simp] theorem T_if126 : infoAll Try.prog 126 = true := by kernel_rfl

theorem mixed : Try.prog.follows .mixedOrders = true := by kernel_rfl

end Go.Proofs.Ytpbgnnaaobamfaa
