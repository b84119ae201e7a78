/-
  What the operations ask of the types of this program. Printed by wip/types.py.
-/
import Derived.Test.YtankjfiaajpfoaaDoorAm24
import Derived.Test.YtankjfiaajpfoaaDoorChecked
namespace Go.Proofs.YtankjfiaajpfoaaDoor
open Go.RowKit
set_option maxRecDepth 100000

@[simp] theorem T_sz1 : szT Tryd.prog 1 = 1 := by kernel_rfl
@[simp] theorem T_ag1 : aggT Tryd.prog 1 = some false := by kernel_rfl
@[simp] theorem T_sz2 : szT Tryd.prog 2 = 1 := by kernel_rfl
@[simp] theorem T_ag2 : aggT Tryd.prog 2 = some false := by kernel_rfl
@[simp] theorem T_el2 : elT Tryd.prog 2 = none := by kernel_rfl
@[simp] theorem T_ar2 : arrT Tryd.prog 2 = none := by kernel_rfl
@[simp] theorem T_in2 : intT Tryd.prog 2 = some .i64 := by kernel_rfl
@[simp] theorem T_bo2 : boolT Tryd.prog 2 = false := by kernel_rfl
@[simp] theorem T_bt2 : byteT Tryd.prog 2 = false := by kernel_rfl
@[simp] theorem T_by2 : byT Tryd.prog 2 = 8 := by kernel_rfl
@[simp] theorem T_z2 : zT Tryd.prog 2 = some [.int .i64 0] := by kernel_rfl
@[simp] theorem T_sz3 : szT Tryd.prog 3 = 1 := by kernel_rfl
@[simp] theorem T_ag3 : aggT Tryd.prog 3 = some false := by kernel_rfl
@[simp] theorem T_el3 : elT Tryd.prog 3 = none := by kernel_rfl
@[simp] theorem T_ar3 : arrT Tryd.prog 3 = none := by kernel_rfl
@[simp] theorem T_in3 : intT Tryd.prog 3 = some .i64 := by kernel_rfl
@[simp] theorem T_bo3 : boolT Tryd.prog 3 = false := by kernel_rfl
@[simp] theorem T_bt3 : byteT Tryd.prog 3 = false := by kernel_rfl
@[simp] theorem T_by3 : byT Tryd.prog 3 = 8 := by kernel_rfl
@[simp] theorem T_z3 : zT Tryd.prog 3 = some [.int .i64 0] := by kernel_rfl
@[simp] theorem T_sz4 : szT Tryd.prog 4 = 1 := by kernel_rfl
@[simp] theorem T_ag4 : aggT Tryd.prog 4 = some false := by kernel_rfl
@[simp] theorem T_in4 : intT Tryd.prog 4 = none := by kernel_rfl
@[simp] theorem T_bo4 : boolT Tryd.prog 4 = true := by kernel_rfl
@[simp] theorem T_bt4 : byteT Tryd.prog 4 = false := by kernel_rfl
@[simp] theorem T_by4 : byT Tryd.prog 4 = 1 := by kernel_rfl
@[simp] theorem T_z4 : zT Tryd.prog 4 = some [.bool false] := by kernel_rfl
@[simp] theorem T_sz5 : szT Tryd.prog 5 = 1 := by kernel_rfl
@[simp] theorem T_ag5 : aggT Tryd.prog 5 = some false := by kernel_rfl
@[simp] theorem T_el5 : elT Tryd.prog 5 = none := by kernel_rfl
@[simp] theorem T_ar5 : arrT Tryd.prog 5 = none := by kernel_rfl
@[simp] theorem T_in5 : intT Tryd.prog 5 = some .u8 := by kernel_rfl
@[simp] theorem T_bo5 : boolT Tryd.prog 5 = false := by kernel_rfl
@[simp] theorem T_bt5 : byteT Tryd.prog 5 = true := by kernel_rfl
@[simp] theorem T_by5 : byT Tryd.prog 5 = 1 := by kernel_rfl
@[simp] theorem T_z5 : zT Tryd.prog 5 = some [.int .u8 0] := by kernel_rfl
@[simp] theorem T_sz6 : szT Tryd.prog 6 = 1 := by kernel_rfl
@[simp] theorem T_ag6 : aggT Tryd.prog 6 = some false := by kernel_rfl
@[simp] theorem T_el6 : elT Tryd.prog 6 = none := by kernel_rfl
@[simp] theorem T_ar6 : arrT Tryd.prog 6 = none := by kernel_rfl
@[simp] theorem T_in6 : intT Tryd.prog 6 = some .u8 := by kernel_rfl
@[simp] theorem T_bo6 : boolT Tryd.prog 6 = false := by kernel_rfl
@[simp] theorem T_bt6 : byteT Tryd.prog 6 = true := by kernel_rfl
@[simp] theorem T_by6 : byT Tryd.prog 6 = 1 := by kernel_rfl
@[simp] theorem T_z6 : zT Tryd.prog 6 = some [.int .u8 0] := by kernel_rfl
@[simp] theorem T_sz7 : szT Tryd.prog 7 = 4 := by kernel_rfl
@[simp] theorem T_ag7 : aggT Tryd.prog 7 = some true := by kernel_rfl
@[simp] theorem T_el7 : elT Tryd.prog 7 = none := by kernel_rfl
@[simp] theorem T_ar7 : arrT Tryd.prog 7 = none := by kernel_rfl
@[simp] theorem T_by7 : byT Tryd.prog 7 = 24 := by kernel_rfl
@[simp] theorem T_f7_0 : fldT Tryd.prog 7 0 = some (0, 2) := by kernel_rfl
@[simp] theorem T_f7_1 : fldT Tryd.prog 7 1 = some (1, 3) := by kernel_rfl
@[simp] theorem T_f7_2 : fldT Tryd.prog 7 2 = some (2, 4) := by kernel_rfl
@[simp] theorem T_f7_3 : fldT Tryd.prog 7 3 = some (3, 6) := by kernel_rfl
@[simp] theorem T_if7 : infoAll Tryd.prog 7 = true := by kernel_rfl
@[simp] theorem T_z7 : zT Tryd.prog 7 = some [.int .i64 0, .int .i64 0, .bool false, .int .u8 0] := by kernel_rfl
@[simp] theorem T_sz8 : szT Tryd.prog 8 = 4 := by kernel_rfl
@[simp] theorem T_ag8 : aggT Tryd.prog 8 = some true := by kernel_rfl
@[simp] theorem T_el8 : elT Tryd.prog 8 = none := by kernel_rfl
@[simp] theorem T_ar8 : arrT Tryd.prog 8 = none := by kernel_rfl
@[simp] theorem T_by8 : byT Tryd.prog 8 = 24 := by kernel_rfl
@[simp] theorem T_f8_0 : fldT Tryd.prog 8 0 = some (0, 2) := by kernel_rfl
@[simp] theorem T_f8_1 : fldT Tryd.prog 8 1 = some (1, 3) := by kernel_rfl
@[simp] theorem T_f8_2 : fldT Tryd.prog 8 2 = some (2, 4) := by kernel_rfl
@[simp] theorem T_f8_3 : fldT Tryd.prog 8 3 = some (3, 6) := by kernel_rfl
@[simp] theorem T_if8 : infoAll Tryd.prog 8 = true := by kernel_rfl
@[simp] theorem T_z8 : zT Tryd.prog 8 = some [.int .i64 0, .int .i64 0, .bool false, .int .u8 0] := by kernel_rfl
@[simp] theorem T_sz9 : szT Tryd.prog 9 = 1 := by kernel_rfl
@[simp] theorem T_ag9 : aggT Tryd.prog 9 = some false := by kernel_rfl
@[simp] theorem T_el9 : elT Tryd.prog 9 = none := by kernel_rfl
@[simp] theorem T_ar9 : arrT Tryd.prog 9 = none := by kernel_rfl
@[simp] theorem T_st9 : strT Tryd.prog 9 = true := by kernel_rfl
@[simp] theorem T_in9 : intT Tryd.prog 9 = none := by kernel_rfl
@[simp] theorem T_bo9 : boolT Tryd.prog 9 = false := by kernel_rfl
@[simp] theorem T_bt9 : byteT Tryd.prog 9 = false := by kernel_rfl
@[simp] theorem T_by9 : byT Tryd.prog 9 = 16 := by kernel_rfl
@[simp] theorem T_z9 : zT Tryd.prog 9 = some [.str ByteArray.empty] := by kernel_rfl
@[simp] theorem T_sz10 : szT Tryd.prog 10 = 1 := by kernel_rfl
@[simp] theorem T_ag10 : aggT Tryd.prog 10 = some false := by kernel_rfl
@[simp] theorem T_el10 : elT Tryd.prog 10 = none := by kernel_rfl
@[simp] theorem T_ar10 : arrT Tryd.prog 10 = none := by kernel_rfl
@[simp] theorem T_st10 : strT Tryd.prog 10 = true := by kernel_rfl
@[simp] theorem T_in10 : intT Tryd.prog 10 = none := by kernel_rfl
@[simp] theorem T_bo10 : boolT Tryd.prog 10 = false := by kernel_rfl
@[simp] theorem T_bt10 : byteT Tryd.prog 10 = false := by kernel_rfl
@[simp] theorem T_by10 : byT Tryd.prog 10 = 16 := by kernel_rfl
@[simp] theorem T_z10 : zT Tryd.prog 10 = some [.str ByteArray.empty] := by kernel_rfl
@[simp] theorem T_sz11 : szT Tryd.prog 11 = 1 := by kernel_rfl
@[simp] theorem T_ag11 : aggT Tryd.prog 11 = some false := by kernel_rfl
@[simp] theorem T_el11 : elT Tryd.prog 11 = none := by kernel_rfl
@[simp] theorem T_ar11 : arrT Tryd.prog 11 = none := by kernel_rfl
@[simp] theorem T_st11 : strT Tryd.prog 11 = true := by kernel_rfl
@[simp] theorem T_in11 : intT Tryd.prog 11 = none := by kernel_rfl
@[simp] theorem T_bo11 : boolT Tryd.prog 11 = false := by kernel_rfl
@[simp] theorem T_bt11 : byteT Tryd.prog 11 = false := by kernel_rfl
@[simp] theorem T_by11 : byT Tryd.prog 11 = 16 := by kernel_rfl
@[simp] theorem T_z11 : zT Tryd.prog 11 = some [.str ByteArray.empty] := by kernel_rfl
@[simp] theorem T_sz12 : szT Tryd.prog 12 = 1 := by kernel_rfl
@[simp] theorem T_ag12 : aggT Tryd.prog 12 = some false := by kernel_rfl
@[simp] theorem T_el12 : elT Tryd.prog 12 = none := by kernel_rfl
@[simp] theorem T_ar12 : arrT Tryd.prog 12 = none := by kernel_rfl
@[simp] theorem T_in12 : intT Tryd.prog 12 = some .u64 := by kernel_rfl
@[simp] theorem T_bo12 : boolT Tryd.prog 12 = false := by kernel_rfl
@[simp] theorem T_bt12 : byteT Tryd.prog 12 = false := by kernel_rfl
@[simp] theorem T_by12 : byT Tryd.prog 12 = 8 := by kernel_rfl
@[simp] theorem T_z12 : zT Tryd.prog 12 = some [.int .u64 0] := by kernel_rfl
@[simp] theorem T_sz13 : szT Tryd.prog 13 = 2 := by kernel_rfl
@[simp] theorem T_ag13 : aggT Tryd.prog 13 = some true := by kernel_rfl
@[simp] theorem T_el13 : elT Tryd.prog 13 = none := by kernel_rfl
@[simp] theorem T_ar13 : arrT Tryd.prog 13 = none := by kernel_rfl
@[simp] theorem T_by13 : byT Tryd.prog 13 = 24 := by kernel_rfl
@[simp] theorem T_f13_0 : fldT Tryd.prog 13 0 = some (0, 9) := by kernel_rfl
@[simp] theorem T_f13_1 : fldT Tryd.prog 13 1 = some (1, 12) := by kernel_rfl
@[simp] theorem T_if13 : infoAll Tryd.prog 13 = true := by kernel_rfl
@[simp] theorem T_z13 : zT Tryd.prog 13 = some [.str ByteArray.empty, .int .u64 0] := by kernel_rfl
@[simp] theorem T_sz14 : szT Tryd.prog 14 = 2 := by kernel_rfl
@[simp] theorem T_ag14 : aggT Tryd.prog 14 = some true := by kernel_rfl
@[simp] theorem T_el14 : elT Tryd.prog 14 = none := by kernel_rfl
@[simp] theorem T_ar14 : arrT Tryd.prog 14 = none := by kernel_rfl
@[simp] theorem T_by14 : byT Tryd.prog 14 = 24 := by kernel_rfl
@[simp] theorem T_f14_0 : fldT Tryd.prog 14 0 = some (0, 9) := by kernel_rfl
@[simp] theorem T_f14_1 : fldT Tryd.prog 14 1 = some (1, 12) := by kernel_rfl
@[simp] theorem T_if14 : infoAll Tryd.prog 14 = true := by kernel_rfl
@[simp] theorem T_z14 : zT Tryd.prog 14 = some [.str ByteArray.empty, .int .u64 0] := by kernel_rfl
@[simp] theorem T_sz15 : szT Tryd.prog 15 = 1 := by kernel_rfl
@[simp] theorem T_ag15 : aggT Tryd.prog 15 = some false := by kernel_rfl
@[simp] theorem T_el15 : elT Tryd.prog 15 = none := by kernel_rfl
@[simp] theorem T_ar15 : arrT Tryd.prog 15 = none := by kernel_rfl
@[simp] theorem T_st15 : strT Tryd.prog 15 = false := by kernel_rfl
@[simp] theorem T_pt15 : ptrT Tryd.prog 15 = true := by kernel_rfl
@[simp] theorem T_by15 : byT Tryd.prog 15 = 8 := by kernel_rfl
@[simp] theorem T_z15 : zT Tryd.prog 15 = some [.nilptr] := by kernel_rfl
@[simp] theorem T_sz16 : szT Tryd.prog 16 = 1 := by kernel_rfl
@[simp] theorem T_ag16 : aggT Tryd.prog 16 = some false := by kernel_rfl
@[simp] theorem T_el16 : elT Tryd.prog 16 = none := by kernel_rfl
@[simp] theorem T_ar16 : arrT Tryd.prog 16 = none := by kernel_rfl
@[simp] theorem T_st16 : strT Tryd.prog 16 = false := by kernel_rfl
@[simp] theorem T_pt16 : ptrT Tryd.prog 16 = true := by kernel_rfl
@[simp] theorem T_by16 : byT Tryd.prog 16 = 8 := by kernel_rfl
@[simp] theorem T_z16 : zT Tryd.prog 16 = some [.nilptr] := by kernel_rfl
@[simp] theorem T_sz17 : szT Tryd.prog 17 = 1 := by kernel_rfl
@[simp] theorem T_ag17 : aggT Tryd.prog 17 = some false := by kernel_rfl
@[simp] theorem T_el17 : elT Tryd.prog 17 = none := by kernel_rfl
@[simp] theorem T_ar17 : arrT Tryd.prog 17 = none := by kernel_rfl
@[simp] theorem T_st17 : strT Tryd.prog 17 = false := by kernel_rfl
@[simp] theorem T_pt17 : ptrT Tryd.prog 17 = true := by kernel_rfl
@[simp] theorem T_by17 : byT Tryd.prog 17 = 8 := by kernel_rfl
@[simp] theorem T_z17 : zT Tryd.prog 17 = some [.nilptr] := by kernel_rfl
@[simp] theorem T_sz18 : szT Tryd.prog 18 = 1 := by kernel_rfl
@[simp] theorem T_ag18 : aggT Tryd.prog 18 = some true := by kernel_rfl
@[simp] theorem T_el18 : elT Tryd.prog 18 = none := by kernel_rfl
@[simp] theorem T_ar18 : arrT Tryd.prog 18 = none := by kernel_rfl
@[simp] theorem T_by18 : byT Tryd.prog 18 = 8 := by kernel_rfl
@[simp] theorem T_f18_0 : fldT Tryd.prog 18 0 = some (0, 17) := by kernel_rfl
@[simp] theorem T_if18 : infoAll Tryd.prog 18 = true := by kernel_rfl
@[simp] theorem T_z18 : zT Tryd.prog 18 = some [.nilptr] := by kernel_rfl
@[simp] theorem T_sz19 : szT Tryd.prog 19 = 1 := by kernel_rfl
@[simp] theorem T_ag19 : aggT Tryd.prog 19 = some true := by kernel_rfl
@[simp] theorem T_el19 : elT Tryd.prog 19 = none := by kernel_rfl
@[simp] theorem T_ar19 : arrT Tryd.prog 19 = none := by kernel_rfl
@[simp] theorem T_by19 : byT Tryd.prog 19 = 8 := by kernel_rfl
@[simp] theorem T_f19_0 : fldT Tryd.prog 19 0 = some (0, 17) := by kernel_rfl
@[simp] theorem T_if19 : infoAll Tryd.prog 19 = true := by kernel_rfl
@[simp] theorem T_z19 : zT Tryd.prog 19 = some [.nilptr] := by kernel_rfl
@[simp] theorem T_sz21 : szT Tryd.prog 21 = 1 := by kernel_rfl
@[simp] theorem T_ag21 : aggT Tryd.prog 21 = some false := by kernel_rfl
@[simp] theorem T_el21 : elT Tryd.prog 21 = none := by kernel_rfl
@[simp] theorem T_ar21 : arrT Tryd.prog 21 = none := by kernel_rfl
@[simp] theorem T_in21 : intT Tryd.prog 21 = some .i32 := by kernel_rfl
@[simp] theorem T_bo21 : boolT Tryd.prog 21 = false := by kernel_rfl
@[simp] theorem T_bt21 : byteT Tryd.prog 21 = false := by kernel_rfl
@[simp] theorem T_by21 : byT Tryd.prog 21 = 4 := by kernel_rfl
@[simp] theorem T_z21 : zT Tryd.prog 21 = some [.int .i32 0] := by kernel_rfl
@[simp] theorem T_sz22 : szT Tryd.prog 22 = 1 := by kernel_rfl
@[simp] theorem T_ag22 : aggT Tryd.prog 22 = some false := by kernel_rfl
@[simp] theorem T_el22 : elT Tryd.prog 22 = some 3 := by kernel_rfl
@[simp] theorem T_ar22 : arrT Tryd.prog 22 = none := by kernel_rfl
@[simp] theorem T_st22 : strT Tryd.prog 22 = false := by kernel_rfl
@[simp] theorem T_by22 : byT Tryd.prog 22 = 24 := by kernel_rfl
@[simp] theorem T_z22 : zT Tryd.prog 22 = some [.slice 1 true []] := by kernel_rfl
@[simp] theorem T_sz23 : szT Tryd.prog 23 = 1 := by kernel_rfl
@[simp] theorem T_ag23 : aggT Tryd.prog 23 = some false := by kernel_rfl
@[simp] theorem T_el23 : elT Tryd.prog 23 = some 3 := by kernel_rfl
@[simp] theorem T_ar23 : arrT Tryd.prog 23 = none := by kernel_rfl
@[simp] theorem T_st23 : strT Tryd.prog 23 = false := by kernel_rfl
@[simp] theorem T_by23 : byT Tryd.prog 23 = 24 := by kernel_rfl
@[simp] theorem T_z23 : zT Tryd.prog 23 = some [.slice 1 true []] := by kernel_rfl
@[simp] theorem T_sz24 : szT Tryd.prog 24 = 1 := by kernel_rfl
@[simp] theorem T_ag24 : aggT Tryd.prog 24 = some false := by kernel_rfl
@[simp] theorem T_sz26 : szT Tryd.prog 26 = 1 := by kernel_rfl
@[simp] theorem T_ag26 : aggT Tryd.prog 26 = some false := by kernel_rfl
@[simp] theorem T_sz27 : szT Tryd.prog 27 = 1 := by kernel_rfl
@[simp] theorem T_ag27 : aggT Tryd.prog 27 = some false := by kernel_rfl
@[simp] theorem T_sz28 : szT Tryd.prog 28 = 1 := by kernel_rfl
@[simp] theorem T_ag28 : aggT Tryd.prog 28 = some false := by kernel_rfl
@[simp] theorem T_sz29 : szT Tryd.prog 29 = 1 := by kernel_rfl
@[simp] theorem T_ag29 : aggT Tryd.prog 29 = some false := by kernel_rfl
@[simp] theorem T_sz30 : szT Tryd.prog 30 = 1 := by kernel_rfl
@[simp] theorem T_ag30 : aggT Tryd.prog 30 = some false := by kernel_rfl
@[simp] theorem T_sz31 : szT Tryd.prog 31 = 1 := by kernel_rfl
@[simp] theorem T_ag31 : aggT Tryd.prog 31 = some false := by kernel_rfl
@[simp] theorem T_sz32 : szT Tryd.prog 32 = 1 := by kernel_rfl
@[simp] theorem T_ag32 : aggT Tryd.prog 32 = some false := by kernel_rfl
@[simp] theorem T_sz33 : szT Tryd.prog 33 = 1 := by kernel_rfl
@[simp] theorem T_ag33 : aggT Tryd.prog 33 = some false := by kernel_rfl
@[simp] theorem T_sz34 : szT Tryd.prog 34 = 1 := by kernel_rfl
@[simp] theorem T_ag34 : aggT Tryd.prog 34 = some false := by kernel_rfl
@[simp] theorem T_sz35 : szT Tryd.prog 35 = 1 := by kernel_rfl
@[simp] theorem T_ag35 : aggT Tryd.prog 35 = some false := by kernel_rfl
@[simp] theorem T_sz36 : szT Tryd.prog 36 = 1 := by kernel_rfl
@[simp] theorem T_ag36 : aggT Tryd.prog 36 = some false := by kernel_rfl
@[simp] theorem T_sz37 : szT Tryd.prog 37 = 1 := by kernel_rfl
@[simp] theorem T_ag37 : aggT Tryd.prog 37 = some false := by kernel_rfl
@[simp] theorem T_sz39 : szT Tryd.prog 39 = 1 := by kernel_rfl
@[simp] theorem T_ag39 : aggT Tryd.prog 39 = some false := by kernel_rfl
@[simp] theorem T_sz40 : szT Tryd.prog 40 = 1 := by kernel_rfl
@[simp] theorem T_ag40 : aggT Tryd.prog 40 = some false := by kernel_rfl
@[simp] theorem T_sz41 : szT Tryd.prog 41 = 1 := by kernel_rfl
@[simp] theorem T_ag41 : aggT Tryd.prog 41 = some false := by kernel_rfl
@[simp] theorem T_el41 : elT Tryd.prog 41 = none := by kernel_rfl
@[simp] theorem T_ar41 : arrT Tryd.prog 41 = none := by kernel_rfl
@[simp] theorem T_in41 : intT Tryd.prog 41 = some .u64 := by kernel_rfl
@[simp] theorem T_bo41 : boolT Tryd.prog 41 = false := by kernel_rfl
@[simp] theorem T_bt41 : byteT Tryd.prog 41 = false := by kernel_rfl
@[simp] theorem T_by41 : byT Tryd.prog 41 = 8 := by kernel_rfl
@[simp] theorem T_z41 : zT Tryd.prog 41 = some [.int .u64 0] := by kernel_rfl
@[simp] theorem T_sz42 : szT Tryd.prog 42 = 1 := by kernel_rfl
@[simp] theorem T_ag42 : aggT Tryd.prog 42 = some false := by kernel_rfl
@[simp] theorem T_sz43 : szT Tryd.prog 43 = 1 := by kernel_rfl
@[simp] theorem T_ag43 : aggT Tryd.prog 43 = some false := by kernel_rfl
@[simp] theorem T_el43 : elT Tryd.prog 43 = some 5 := by kernel_rfl
@[simp] theorem T_ar43 : arrT Tryd.prog 43 = none := by kernel_rfl
@[simp] theorem T_st43 : strT Tryd.prog 43 = false := by kernel_rfl
@[simp] theorem T_by43 : byT Tryd.prog 43 = 24 := by kernel_rfl
@[simp] theorem T_z43 : zT Tryd.prog 43 = some [.slice 1 true []] := by kernel_rfl
@[simp] theorem T_sz44 : szT Tryd.prog 44 = 1 := by kernel_rfl
@[simp] theorem T_ag44 : aggT Tryd.prog 44 = some false := by kernel_rfl
@[simp] theorem T_el44 : elT Tryd.prog 44 = none := by kernel_rfl
@[simp] theorem T_ar44 : arrT Tryd.prog 44 = none := by kernel_rfl
@[simp] theorem T_st44 : strT Tryd.prog 44 = false := by kernel_rfl
@[simp] theorem T_pt44 : ptrT Tryd.prog 44 = true := by kernel_rfl
@[simp] theorem T_by44 : byT Tryd.prog 44 = 8 := by kernel_rfl
@[simp] theorem T_z44 : zT Tryd.prog 44 = some [.nilptr] := by kernel_rfl
@[simp] theorem T_sz45 : szT Tryd.prog 45 = 2 := by kernel_rfl
@[simp] theorem T_ag45 : aggT Tryd.prog 45 = some true := by kernel_rfl
@[simp] theorem T_el45 : elT Tryd.prog 45 = none := by kernel_rfl
@[simp] theorem T_ar45 : arrT Tryd.prog 45 = none := by kernel_rfl
@[simp] theorem T_by45 : byT Tryd.prog 45 = 32 := by kernel_rfl
@[simp] theorem T_f45_0 : fldT Tryd.prog 45 0 = some (0, 44) := by kernel_rfl
@[simp] theorem T_f45_1 : fldT Tryd.prog 45 1 = some (1, 43) := by kernel_rfl
@[simp] theorem T_if45 : infoAll Tryd.prog 45 = true := by kernel_rfl
@[simp] theorem T_z45 : zT Tryd.prog 45 = some [.nilptr, .slice 1 true []] := by kernel_rfl
@[simp] theorem T_sz46 : szT Tryd.prog 46 = 2 := by kernel_rfl
@[simp] theorem T_ag46 : aggT Tryd.prog 46 = some true := by kernel_rfl
@[simp] theorem T_el46 : elT Tryd.prog 46 = none := by kernel_rfl
@[simp] theorem T_ar46 : arrT Tryd.prog 46 = none := by kernel_rfl
@[simp] theorem T_by46 : byT Tryd.prog 46 = 32 := by kernel_rfl
@[simp] theorem T_f46_0 : fldT Tryd.prog 46 0 = some (0, 44) := by kernel_rfl
@[simp] theorem T_f46_1 : fldT Tryd.prog 46 1 = some (1, 43) := by kernel_rfl
@[simp] theorem T_if46 : infoAll Tryd.prog 46 = true := by kernel_rfl
@[simp] theorem T_z46 : zT Tryd.prog 46 = some [.nilptr, .slice 1 true []] := by kernel_rfl
@[simp] theorem T_sz50 : szT Tryd.prog 50 = 1 := by kernel_rfl
@[simp] theorem T_ag50 : aggT Tryd.prog 50 = some false := by kernel_rfl
@[simp] theorem T_sz51 : szT Tryd.prog 51 = 1 := by kernel_rfl
@[simp] theorem T_ag51 : aggT Tryd.prog 51 = some false := by kernel_rfl
@[simp] theorem T_sz52 : szT Tryd.prog 52 = 1 := by kernel_rfl
@[simp] theorem T_ag52 : aggT Tryd.prog 52 = some false := by kernel_rfl
@[simp] theorem T_sz53 : szT Tryd.prog 53 = 1 := by kernel_rfl
@[simp] theorem T_ag53 : aggT Tryd.prog 53 = some false := by kernel_rfl
@[simp] theorem T_sz54 : szT Tryd.prog 54 = 1 := by kernel_rfl
@[simp] theorem T_ag54 : aggT Tryd.prog 54 = some false := by kernel_rfl
@[simp] theorem T_sz55 : szT Tryd.prog 55 = 1 := by kernel_rfl
@[simp] theorem T_ag55 : aggT Tryd.prog 55 = some false := by kernel_rfl
@[simp] theorem T_sz57 : szT Tryd.prog 57 = 1 := by kernel_rfl
@[simp] theorem T_ag57 : aggT Tryd.prog 57 = some false := by kernel_rfl
@[simp] theorem T_sz58 : szT Tryd.prog 58 = 1 := by kernel_rfl
@[simp] theorem T_ag58 : aggT Tryd.prog 58 = some false := by kernel_rfl
@[simp] theorem T_sz59 : szT Tryd.prog 59 = 1 := by kernel_rfl
@[simp] theorem T_ag59 : aggT Tryd.prog 59 = some false := by kernel_rfl
@[simp] theorem T_sz60 : szT Tryd.prog 60 = 1 := by kernel_rfl
@[simp] theorem T_ag60 : aggT Tryd.prog 60 = some false := by kernel_rfl
@[simp] theorem T_sz61 : szT Tryd.prog 61 = 1 := by kernel_rfl
@[simp] theorem T_ag61 : aggT Tryd.prog 61 = some false := by kernel_rfl
@[simp] theorem T_el61 : elT Tryd.prog 61 = none := by kernel_rfl
@[simp] theorem T_ar61 : arrT Tryd.prog 61 = none := by kernel_rfl
@[simp] theorem T_st61 : strT Tryd.prog 61 = false := by kernel_rfl
@[simp] theorem T_pt61 : ptrT Tryd.prog 61 = true := by kernel_rfl
@[simp] theorem T_by61 : byT Tryd.prog 61 = 8 := by kernel_rfl
@[simp] theorem T_z61 : zT Tryd.prog 61 = some [.nilptr] := by kernel_rfl
@[simp] theorem T_sz62 : szT Tryd.prog 62 = 1 := by kernel_rfl
@[simp] theorem T_ag62 : aggT Tryd.prog 62 = some false := by kernel_rfl
@[simp] theorem T_sz64 : szT Tryd.prog 64 = 1 := by kernel_rfl
@[simp] theorem T_ag64 : aggT Tryd.prog 64 = some false := by kernel_rfl
@[simp] theorem T_sz65 : szT Tryd.prog 65 = 1 := by kernel_rfl
@[simp] theorem T_ag65 : aggT Tryd.prog 65 = some false := by kernel_rfl
@[simp] theorem T_sz66 : szT Tryd.prog 66 = 1 := by kernel_rfl
@[simp] theorem T_ag66 : aggT Tryd.prog 66 = some false := by kernel_rfl
@[simp] theorem T_el66 : elT Tryd.prog 66 = none := by kernel_rfl
@[simp] theorem T_ar66 : arrT Tryd.prog 66 = none := by kernel_rfl
@[simp] theorem T_in66 : intT Tryd.prog 66 = some .u32 := by kernel_rfl
@[simp] theorem T_bo66 : boolT Tryd.prog 66 = false := by kernel_rfl
@[simp] theorem T_bt66 : byteT Tryd.prog 66 = false := by kernel_rfl
@[simp] theorem T_by66 : byT Tryd.prog 66 = 4 := by kernel_rfl
@[simp] theorem T_z66 : zT Tryd.prog 66 = some [.int .u32 0] := by kernel_rfl
@[simp] theorem T_sz68 : szT Tryd.prog 68 = 1 := by kernel_rfl
@[simp] theorem T_ag68 : aggT Tryd.prog 68 = some false := by kernel_rfl
@[simp] theorem T_sz69 : szT Tryd.prog 69 = 1 := by kernel_rfl
@[simp] theorem T_ag69 : aggT Tryd.prog 69 = some false := by kernel_rfl
@[simp] theorem T_el69 : elT Tryd.prog 69 = none := by kernel_rfl
@[simp] theorem T_ar69 : arrT Tryd.prog 69 = none := by kernel_rfl
@[simp] theorem T_in69 : intT Tryd.prog 69 = some .u64 := by kernel_rfl
@[simp] theorem T_bo69 : boolT Tryd.prog 69 = false := by kernel_rfl
@[simp] theorem T_bt69 : byteT Tryd.prog 69 = false := by kernel_rfl
@[simp] theorem T_by69 : byT Tryd.prog 69 = 8 := by kernel_rfl
@[simp] theorem T_z69 : zT Tryd.prog 69 = some [.int .u64 0] := by kernel_rfl
@[simp] theorem T_sz71 : szT Tryd.prog 71 = 1 := by kernel_rfl
@[simp] theorem T_ag71 : aggT Tryd.prog 71 = some false := by kernel_rfl
@[simp] theorem T_sz72 : szT Tryd.prog 72 = 24 := by kernel_rfl
@[simp] theorem T_ag72 : aggT Tryd.prog 72 = some true := by kernel_rfl
@[simp] theorem T_el72 : elT Tryd.prog 72 = none := by kernel_rfl
@[simp] theorem T_ar72 : arrT Tryd.prog 72 = some (24, 5) := by kernel_rfl
@[simp] theorem T_st72 : strT Tryd.prog 72 = false := by kernel_rfl
@[simp] theorem T_by72 : byT Tryd.prog 72 = 24 := by kernel_rfl
@[simp] theorem T_z72 : zT Tryd.prog 72 = some [.int .u8 0, .int .u8 0, .int .u8 0, .int .u8 0, .int .u8 0, .int .u8 0, .int .u8 0, .int .u8 0, .int .u8 0, .int .u8 0, .int .u8 0, .int .u8 0, .int .u8 0, .int .u8 0, .int .u8 0, .int .u8 0, .int .u8 0, .int .u8 0, .int .u8 0, .int .u8 0, .int .u8 0, .int .u8 0, .int .u8 0, .int .u8 0] := by kernel_rfl
@[simp] theorem T_sz73 : szT Tryd.prog 73 = 1 := by kernel_rfl
@[simp] theorem T_ag73 : aggT Tryd.prog 73 = some false := by kernel_rfl
@[simp] theorem T_sz74 : szT Tryd.prog 74 = 1 := by kernel_rfl
@[simp] theorem T_ag74 : aggT Tryd.prog 74 = some false := by kernel_rfl
@[simp] theorem T_sz76 : szT Tryd.prog 76 = 1 := by kernel_rfl
@[simp] theorem T_ag76 : aggT Tryd.prog 76 = some false := by kernel_rfl
@[simp] theorem T_sz77 : szT Tryd.prog 77 = 1 := by kernel_rfl
@[simp] theorem T_ag77 : aggT Tryd.prog 77 = some false := by kernel_rfl
@[simp] theorem T_sz78 : szT Tryd.prog 78 = 1 := by kernel_rfl
@[simp] theorem T_ag78 : aggT Tryd.prog 78 = some false := by kernel_rfl
@[simp] theorem T_sz79 : szT Tryd.prog 79 = 1 := by kernel_rfl
@[simp] theorem T_ag79 : aggT Tryd.prog 79 = some false := by kernel_rfl
@[simp] theorem T_sz80 : szT Tryd.prog 80 = 20 := by kernel_rfl
@[simp] theorem T_ag80 : aggT Tryd.prog 80 = some true := by kernel_rfl
@[simp] theorem T_el80 : elT Tryd.prog 80 = none := by kernel_rfl
@[simp] theorem T_ar80 : arrT Tryd.prog 80 = some (20, 69) := by kernel_rfl
@[simp] theorem T_st80 : strT Tryd.prog 80 = false := by kernel_rfl
@[simp] theorem T_by80 : byT Tryd.prog 80 = 160 := by kernel_rfl
@[simp] theorem T_z80 : zT Tryd.prog 80 = some [.int .u64 0, .int .u64 0, .int .u64 0, .int .u64 0, .int .u64 0, .int .u64 0, .int .u64 0, .int .u64 0, .int .u64 0, .int .u64 0, .int .u64 0, .int .u64 0, .int .u64 0, .int .u64 0, .int .u64 0, .int .u64 0, .int .u64 0, .int .u64 0, .int .u64 0, .int .u64 0] := by kernel_rfl
@[simp] theorem T_sz82 : szT Tryd.prog 82 = 1 := by kernel_rfl
@[simp] theorem T_ag82 : aggT Tryd.prog 82 = some false := by kernel_rfl
@[simp] theorem T_sz83 : szT Tryd.prog 83 = 1 := by kernel_rfl
@[simp] theorem T_ag83 : aggT Tryd.prog 83 = some false := by kernel_rfl
@[simp] theorem T_sz84 : szT Tryd.prog 84 = 32 := by kernel_rfl
@[simp] theorem T_ag84 : aggT Tryd.prog 84 = some true := by kernel_rfl
@[simp] theorem T_el84 : elT Tryd.prog 84 = none := by kernel_rfl
@[simp] theorem T_ar84 : arrT Tryd.prog 84 = some (32, 5) := by kernel_rfl
@[simp] theorem T_st84 : strT Tryd.prog 84 = false := by kernel_rfl
@[simp] theorem T_by84 : byT Tryd.prog 84 = 32 := by kernel_rfl
@[simp] theorem T_z84 : zT Tryd.prog 84 = some [.int .u8 0, .int .u8 0, .int .u8 0, .int .u8 0, .int .u8 0, .int .u8 0, .int .u8 0, .int .u8 0, .int .u8 0, .int .u8 0, .int .u8 0, .int .u8 0, .int .u8 0, .int .u8 0, .int .u8 0, .int .u8 0, .int .u8 0, .int .u8 0, .int .u8 0, .int .u8 0, .int .u8 0, .int .u8 0, .int .u8 0, .int .u8 0, .int .u8 0, .int .u8 0, .int .u8 0, .int .u8 0, .int .u8 0, .int .u8 0, .int .u8 0, .int .u8 0] := by kernel_rfl
@[simp] theorem T_sz86 : szT Tryd.prog 86 = 4 := by kernel_rfl
@[simp] theorem T_ag86 : aggT Tryd.prog 86 = some true := by kernel_rfl
@[simp] theorem T_el86 : elT Tryd.prog 86 = none := by kernel_rfl
@[simp] theorem T_ar86 : arrT Tryd.prog 86 = none := by kernel_rfl
@[simp] theorem T_by86 : byT Tryd.prog 86 = 40 := by kernel_rfl
@[simp] theorem T_f86_0 : fldT Tryd.prog 86 0 = some (0, 17) := by kernel_rfl
@[simp] theorem T_f86_1 : fldT Tryd.prog 86 1 = some (1, 17) := by kernel_rfl
@[simp] theorem T_f86_2 : fldT Tryd.prog 86 2 = some (2, 17) := by kernel_rfl
@[simp] theorem T_f86_3 : fldT Tryd.prog 86 3 = some (3, 9) := by kernel_rfl
@[simp] theorem T_if86 : infoAll Tryd.prog 86 = true := by kernel_rfl
@[simp] theorem T_z86 : zT Tryd.prog 86 = some [.nilptr, .nilptr, .nilptr, .str ByteArray.empty] := by kernel_rfl
@[simp] theorem T_sz87 : szT Tryd.prog 87 = 4 := by kernel_rfl
@[simp] theorem T_ag87 : aggT Tryd.prog 87 = some true := by kernel_rfl
@[simp] theorem T_el87 : elT Tryd.prog 87 = none := by kernel_rfl
@[simp] theorem T_ar87 : arrT Tryd.prog 87 = none := by kernel_rfl
@[simp] theorem T_by87 : byT Tryd.prog 87 = 40 := by kernel_rfl
@[simp] theorem T_f87_0 : fldT Tryd.prog 87 0 = some (0, 17) := by kernel_rfl
@[simp] theorem T_f87_1 : fldT Tryd.prog 87 1 = some (1, 17) := by kernel_rfl
@[simp] theorem T_f87_2 : fldT Tryd.prog 87 2 = some (2, 17) := by kernel_rfl
@[simp] theorem T_f87_3 : fldT Tryd.prog 87 3 = some (3, 9) := by kernel_rfl
@[simp] theorem T_if87 : infoAll Tryd.prog 87 = true := by kernel_rfl
@[simp] theorem T_z87 : zT Tryd.prog 87 = some [.nilptr, .nilptr, .nilptr, .str ByteArray.empty] := by kernel_rfl
@[simp] theorem T_sz88 : szT Tryd.prog 88 = 0 := by kernel_rfl
@[simp] theorem T_ag88 : aggT Tryd.prog 88 = some true := by kernel_rfl
@[simp] theorem T_el88 : elT Tryd.prog 88 = none := by kernel_rfl
@[simp] theorem T_ar88 : arrT Tryd.prog 88 = some (0, 16) := by kernel_rfl
@[simp] theorem T_st88 : strT Tryd.prog 88 = false := by kernel_rfl
@[simp] theorem T_by88 : byT Tryd.prog 88 = 0 := by kernel_rfl
@[simp] theorem T_sz89 : szT Tryd.prog 89 = 0 := by kernel_rfl
@[simp] theorem T_ag89 : aggT Tryd.prog 89 = some true := by kernel_rfl
@[simp] theorem T_el89 : elT Tryd.prog 89 = none := by kernel_rfl
@[simp] theorem T_ar89 : arrT Tryd.prog 89 = none := by kernel_rfl
@[simp] theorem T_by89 : byT Tryd.prog 89 = 0 := by kernel_rfl
@[simp] theorem T_f89_0 : fldT Tryd.prog 89 0 = some (0, 88) := by kernel_rfl
@[simp] theorem T_if89 : infoAll Tryd.prog 89 = true := by kernel_rfl
@[simp] theorem T_sz90 : szT Tryd.prog 90 = 0 := by kernel_rfl
@[simp] theorem T_ag90 : aggT Tryd.prog 90 = some true := by kernel_rfl
@[simp] theorem T_el90 : elT Tryd.prog 90 = none := by kernel_rfl
@[simp] theorem T_ar90 : arrT Tryd.prog 90 = none := by kernel_rfl
@[simp] theorem T_by90 : byT Tryd.prog 90 = 0 := by kernel_rfl
@[simp] theorem T_f90_0 : fldT Tryd.prog 90 0 = some (0, 88) := by kernel_rfl
@[simp] theorem T_if90 : infoAll Tryd.prog 90 = true := by kernel_rfl
@[simp] theorem T_sz91 : szT Tryd.prog 91 = 1 := by kernel_rfl
@[simp] theorem T_ag91 : aggT Tryd.prog 91 = some false := by kernel_rfl
@[simp] theorem T_el91 : elT Tryd.prog 91 = none := by kernel_rfl
@[simp] theorem T_ar91 : arrT Tryd.prog 91 = none := by kernel_rfl
@[simp] theorem T_in91 : intT Tryd.prog 91 = some .u8 := by kernel_rfl
@[simp] theorem T_bo91 : boolT Tryd.prog 91 = false := by kernel_rfl
@[simp] theorem T_bt91 : byteT Tryd.prog 91 = true := by kernel_rfl
@[simp] theorem T_by91 : byT Tryd.prog 91 = 1 := by kernel_rfl
@[simp] theorem T_z91 : zT Tryd.prog 91 = some [.int .u8 0] := by kernel_rfl
@[simp] theorem T_sz92 : szT Tryd.prog 92 = 1 := by kernel_rfl
@[simp] theorem T_ag92 : aggT Tryd.prog 92 = some false := by kernel_rfl
@[simp] theorem T_el92 : elT Tryd.prog 92 = none := by kernel_rfl
@[simp] theorem T_ar92 : arrT Tryd.prog 92 = none := by kernel_rfl
@[simp] theorem T_in92 : intT Tryd.prog 92 = some .u8 := by kernel_rfl
@[simp] theorem T_bo92 : boolT Tryd.prog 92 = false := by kernel_rfl
@[simp] theorem T_bt92 : byteT Tryd.prog 92 = true := by kernel_rfl
@[simp] theorem T_by92 : byT Tryd.prog 92 = 1 := by kernel_rfl
@[simp] theorem T_z92 : zT Tryd.prog 92 = some [.int .u8 0] := by kernel_rfl
@[simp] theorem T_sz93 : szT Tryd.prog 93 = 1 := by kernel_rfl
@[simp] theorem T_ag93 : aggT Tryd.prog 93 = some false := by kernel_rfl
@[simp] theorem T_sz94 : szT Tryd.prog 94 = 1 := by kernel_rfl
@[simp] theorem T_ag94 : aggT Tryd.prog 94 = some false := by kernel_rfl
@[simp] theorem T_el94 : elT Tryd.prog 94 = none := by kernel_rfl
@[simp] theorem T_ar94 : arrT Tryd.prog 94 = none := by kernel_rfl
@[simp] theorem T_in94 : intT Tryd.prog 94 = some .i32 := by kernel_rfl
@[simp] theorem T_bo94 : boolT Tryd.prog 94 = false := by kernel_rfl
@[simp] theorem T_bt94 : byteT Tryd.prog 94 = false := by kernel_rfl
@[simp] theorem T_by94 : byT Tryd.prog 94 = 4 := by kernel_rfl
@[simp] theorem T_z94 : zT Tryd.prog 94 = some [.int .i32 0] := by kernel_rfl
@[simp] theorem T_sz95 : szT Tryd.prog 95 = 1 := by kernel_rfl
@[simp] theorem T_ag95 : aggT Tryd.prog 95 = some false := by kernel_rfl
@[simp] theorem T_el95 : elT Tryd.prog 95 = none := by kernel_rfl
@[simp] theorem T_ar95 : arrT Tryd.prog 95 = none := by kernel_rfl
@[simp] theorem T_in95 : intT Tryd.prog 95 = some .i32 := by kernel_rfl
@[simp] theorem T_bo95 : boolT Tryd.prog 95 = false := by kernel_rfl
@[simp] theorem T_bt95 : byteT Tryd.prog 95 = false := by kernel_rfl
@[simp] theorem T_by95 : byT Tryd.prog 95 = 4 := by kernel_rfl
@[simp] theorem T_z95 : zT Tryd.prog 95 = some [.int .i32 0] := by kernel_rfl
@[simp] theorem T_sz96 : szT Tryd.prog 96 = 11 := by kernel_rfl
@[simp] theorem T_ag96 : aggT Tryd.prog 96 = some true := by kernel_rfl
@[simp] theorem T_el96 : elT Tryd.prog 96 = none := by kernel_rfl
@[simp] theorem T_ar96 : arrT Tryd.prog 96 = none := by kernel_rfl
@[simp] theorem T_by96 : byT Tryd.prog 96 = 48 := by kernel_rfl
@[simp] theorem T_f96_0 : fldT Tryd.prog 96 0 = some (0, 12) := by kernel_rfl
@[simp] theorem T_f96_1 : fldT Tryd.prog 96 1 = some (1, 12) := by kernel_rfl
@[simp] theorem T_f96_2 : fldT Tryd.prog 96 2 = some (2, 66) := by kernel_rfl
@[simp] theorem T_f96_3 : fldT Tryd.prog 96 3 = some (3, 91) := by kernel_rfl
@[simp] theorem T_f96_4 : fldT Tryd.prog 96 4 = some (4, 5) := by kernel_rfl
@[simp] theorem T_f96_5 : fldT Tryd.prog 96 5 = some (5, 5) := by kernel_rfl
@[simp] theorem T_f96_6 : fldT Tryd.prog 96 6 = some (6, 92) := by kernel_rfl
@[simp] theorem T_f96_7 : fldT Tryd.prog 96 7 = some (7, 93) := by kernel_rfl
@[simp] theorem T_f96_8 : fldT Tryd.prog 96 8 = some (8, 61) := by kernel_rfl
@[simp] theorem T_f96_9 : fldT Tryd.prog 96 9 = some (9, 94) := by kernel_rfl
@[simp] theorem T_f96_10 : fldT Tryd.prog 96 10 = some (10, 95) := by kernel_rfl
@[simp] theorem T_if96 : infoAll Tryd.prog 96 = true := by kernel_rfl
@[simp] theorem T_sz97 : szT Tryd.prog 97 = 11 := by kernel_rfl
@[simp] theorem T_ag97 : aggT Tryd.prog 97 = some true := by kernel_rfl
@[simp] theorem T_el97 : elT Tryd.prog 97 = none := by kernel_rfl
@[simp] theorem T_ar97 : arrT Tryd.prog 97 = none := by kernel_rfl
@[simp] theorem T_by97 : byT Tryd.prog 97 = 48 := by kernel_rfl
@[simp] theorem T_f97_0 : fldT Tryd.prog 97 0 = some (0, 12) := by kernel_rfl
@[simp] theorem T_f97_1 : fldT Tryd.prog 97 1 = some (1, 12) := by kernel_rfl
@[simp] theorem T_f97_2 : fldT Tryd.prog 97 2 = some (2, 66) := by kernel_rfl
@[simp] theorem T_f97_3 : fldT Tryd.prog 97 3 = some (3, 91) := by kernel_rfl
@[simp] theorem T_f97_4 : fldT Tryd.prog 97 4 = some (4, 5) := by kernel_rfl
@[simp] theorem T_f97_5 : fldT Tryd.prog 97 5 = some (5, 5) := by kernel_rfl
@[simp] theorem T_f97_6 : fldT Tryd.prog 97 6 = some (6, 92) := by kernel_rfl
@[simp] theorem T_f97_7 : fldT Tryd.prog 97 7 = some (7, 93) := by kernel_rfl
@[simp] theorem T_f97_8 : fldT Tryd.prog 97 8 = some (8, 61) := by kernel_rfl
@[simp] theorem T_f97_9 : fldT Tryd.prog 97 9 = some (9, 94) := by kernel_rfl
@[simp] theorem T_f97_10 : fldT Tryd.prog 97 10 = some (10, 95) := by kernel_rfl
@[simp] theorem T_if97 : infoAll Tryd.prog 97 = true := by kernel_rfl

theorem mixed : Tryd.prog.follows .mixedOrders = true := by kernel_rfl

end Go.Proofs.YtankjfiaajpfoaaDoor
