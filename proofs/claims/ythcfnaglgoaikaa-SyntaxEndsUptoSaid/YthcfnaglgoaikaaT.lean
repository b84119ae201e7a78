/-
  What the operations ask of the types of this program. Printed by wip/types.py.
-/
import Derived.Test.YthcfnaglgoaikaaAmE
import Derived.Test.YthcfnaglgoaikaaChecked
namespace Go.Proofs.Ythcfnaglgoaikaa
open Go.RowKit
set_option maxRecDepth 100000

@[simp] theorem T_sz1 : szT Try.prog 1 = 1 := by kernel_rfl
@[simp] theorem T_ag1 : aggT Try.prog 1 = some false := by kernel_rfl
@[simp] theorem T_sz2 : szT Try.prog 2 = 1 := by kernel_rfl
@[simp] theorem T_ag2 : aggT Try.prog 2 = some false := by kernel_rfl
@[simp] theorem T_el2 : elT Try.prog 2 = none := by kernel_rfl
@[simp] theorem T_ar2 : arrT Try.prog 2 = none := by kernel_rfl
@[simp] theorem T_in2 : intT Try.prog 2 = some .i64 := by kernel_rfl
@[simp] theorem T_bo2 : boolT Try.prog 2 = false := by kernel_rfl
@[simp] theorem T_bt2 : byteT Try.prog 2 = false := by kernel_rfl
@[simp] theorem T_by2 : byT Try.prog 2 = 8 := by kernel_rfl
@[simp] theorem T_z2 : zT Try.prog 2 = some [.int .i64 0] := by kernel_rfl
@[simp] theorem T_sz3 : szT Try.prog 3 = 1 := by kernel_rfl
@[simp] theorem T_ag3 : aggT Try.prog 3 = some false := by kernel_rfl
@[simp] theorem T_el3 : elT Try.prog 3 = none := by kernel_rfl
@[simp] theorem T_ar3 : arrT Try.prog 3 = none := by kernel_rfl
@[simp] theorem T_in3 : intT Try.prog 3 = some .i64 := by kernel_rfl
@[simp] theorem T_bo3 : boolT Try.prog 3 = false := by kernel_rfl
@[simp] theorem T_bt3 : byteT Try.prog 3 = false := by kernel_rfl
@[simp] theorem T_by3 : byT Try.prog 3 = 8 := by kernel_rfl
@[simp] theorem T_z3 : zT Try.prog 3 = some [.int .i64 0] := by kernel_rfl
@[simp] theorem T_sz4 : szT Try.prog 4 = 1 := by kernel_rfl
@[simp] theorem T_ag4 : aggT Try.prog 4 = some false := by kernel_rfl
@[simp] theorem T_in4 : intT Try.prog 4 = none := by kernel_rfl
@[simp] theorem T_bo4 : boolT Try.prog 4 = true := by kernel_rfl
@[simp] theorem T_bt4 : byteT Try.prog 4 = false := by kernel_rfl
@[simp] theorem T_by4 : byT Try.prog 4 = 1 := by kernel_rfl
@[simp] theorem T_z4 : zT Try.prog 4 = some [.bool false] := by kernel_rfl
@[simp] theorem T_sz5 : szT Try.prog 5 = 1 := by kernel_rfl
@[simp] theorem T_ag5 : aggT Try.prog 5 = some false := by kernel_rfl
@[simp] theorem T_el5 : elT Try.prog 5 = none := by kernel_rfl
@[simp] theorem T_ar5 : arrT Try.prog 5 = none := by kernel_rfl
@[simp] theorem T_in5 : intT Try.prog 5 = some .u8 := by kernel_rfl
@[simp] theorem T_bo5 : boolT Try.prog 5 = false := by kernel_rfl
@[simp] theorem T_bt5 : byteT Try.prog 5 = true := by kernel_rfl
@[simp] theorem T_by5 : byT Try.prog 5 = 1 := by kernel_rfl
@[simp] theorem T_z5 : zT Try.prog 5 = some [.int .u8 0] := by kernel_rfl
@[simp] theorem T_sz6 : szT Try.prog 6 = 1 := by kernel_rfl
@[simp] theorem T_ag6 : aggT Try.prog 6 = some false := by kernel_rfl
@[simp] theorem T_el6 : elT Try.prog 6 = none := by kernel_rfl
@[simp] theorem T_ar6 : arrT Try.prog 6 = none := by kernel_rfl
@[simp] theorem T_in6 : intT Try.prog 6 = some .u8 := by kernel_rfl
@[simp] theorem T_bo6 : boolT Try.prog 6 = false := by kernel_rfl
@[simp] theorem T_bt6 : byteT Try.prog 6 = true := by kernel_rfl
@[simp] theorem T_by6 : byT Try.prog 6 = 1 := by kernel_rfl
@[simp] theorem T_z6 : zT Try.prog 6 = some [.int .u8 0] := by kernel_rfl
@[simp] theorem T_sz7 : szT Try.prog 7 = 4 := by kernel_rfl
@[simp] theorem T_ag7 : aggT Try.prog 7 = some true := by kernel_rfl
@[simp] theorem T_el7 : elT Try.prog 7 = none := by kernel_rfl
@[simp] theorem T_ar7 : arrT Try.prog 7 = none := by kernel_rfl
@[simp] theorem T_by7 : byT Try.prog 7 = 24 := by kernel_rfl
@[simp] theorem T_f7_0 : fldT Try.prog 7 0 = some (0, 2) := by kernel_rfl
@[simp] theorem T_f7_1 : fldT Try.prog 7 1 = some (1, 3) := by kernel_rfl
@[simp] theorem T_f7_2 : fldT Try.prog 7 2 = some (2, 4) := by kernel_rfl
@[simp] theorem T_f7_3 : fldT Try.prog 7 3 = some (3, 6) := by kernel_rfl
@[simp] theorem T_if7 : infoAll Try.prog 7 = true := by kernel_rfl
@[simp] theorem T_z7 : zT Try.prog 7 = some [.int .i64 0, .int .i64 0, .bool false, .int .u8 0] := by kernel_rfl
@[simp] theorem T_sz8 : szT Try.prog 8 = 4 := by kernel_rfl
@[simp] theorem T_ag8 : aggT Try.prog 8 = some true := by kernel_rfl
@[simp] theorem T_el8 : elT Try.prog 8 = none := by kernel_rfl
@[simp] theorem T_ar8 : arrT Try.prog 8 = none := by kernel_rfl
@[simp] theorem T_by8 : byT Try.prog 8 = 24 := by kernel_rfl
@[simp] theorem T_f8_0 : fldT Try.prog 8 0 = some (0, 2) := by kernel_rfl
@[simp] theorem T_f8_1 : fldT Try.prog 8 1 = some (1, 3) := by kernel_rfl
@[simp] theorem T_f8_2 : fldT Try.prog 8 2 = some (2, 4) := by kernel_rfl
@[simp] theorem T_f8_3 : fldT Try.prog 8 3 = some (3, 6) := by kernel_rfl
@[simp] theorem T_if8 : infoAll Try.prog 8 = true := by kernel_rfl
@[simp] theorem T_z8 : zT Try.prog 8 = some [.int .i64 0, .int .i64 0, .bool false, .int .u8 0] := by kernel_rfl
@[simp] theorem T_sz9 : szT Try.prog 9 = 1 := by kernel_rfl
@[simp] theorem T_ag9 : aggT Try.prog 9 = some false := by kernel_rfl
@[simp] theorem T_el9 : elT Try.prog 9 = none := by kernel_rfl
@[simp] theorem T_ar9 : arrT Try.prog 9 = none := by kernel_rfl
@[simp] theorem T_st9 : strT Try.prog 9 = true := by kernel_rfl
@[simp] theorem T_in9 : intT Try.prog 9 = none := by kernel_rfl
@[simp] theorem T_bo9 : boolT Try.prog 9 = false := by kernel_rfl
@[simp] theorem T_bt9 : byteT Try.prog 9 = false := by kernel_rfl
@[simp] theorem T_by9 : byT Try.prog 9 = 16 := by kernel_rfl
@[simp] theorem T_z9 : zT Try.prog 9 = some [.str ByteArray.empty] := by kernel_rfl
@[simp] theorem T_sz10 : szT Try.prog 10 = 1 := by kernel_rfl
@[simp] theorem T_ag10 : aggT Try.prog 10 = some false := by kernel_rfl
@[simp] theorem T_el10 : elT Try.prog 10 = none := by kernel_rfl
@[simp] theorem T_ar10 : arrT Try.prog 10 = none := by kernel_rfl
@[simp] theorem T_st10 : strT Try.prog 10 = true := by kernel_rfl
@[simp] theorem T_in10 : intT Try.prog 10 = none := by kernel_rfl
@[simp] theorem T_bo10 : boolT Try.prog 10 = false := by kernel_rfl
@[simp] theorem T_bt10 : byteT Try.prog 10 = false := by kernel_rfl
@[simp] theorem T_by10 : byT Try.prog 10 = 16 := by kernel_rfl
@[simp] theorem T_z10 : zT Try.prog 10 = some [.str ByteArray.empty] := by kernel_rfl
@[simp] theorem T_sz11 : szT Try.prog 11 = 1 := by kernel_rfl
@[simp] theorem T_ag11 : aggT Try.prog 11 = some false := by kernel_rfl
@[simp] theorem T_el11 : elT Try.prog 11 = none := by kernel_rfl
@[simp] theorem T_ar11 : arrT Try.prog 11 = none := by kernel_rfl
@[simp] theorem T_st11 : strT Try.prog 11 = true := by kernel_rfl
@[simp] theorem T_in11 : intT Try.prog 11 = none := by kernel_rfl
@[simp] theorem T_bo11 : boolT Try.prog 11 = false := by kernel_rfl
@[simp] theorem T_bt11 : byteT Try.prog 11 = false := by kernel_rfl
@[simp] theorem T_by11 : byT Try.prog 11 = 16 := by kernel_rfl
@[simp] theorem T_z11 : zT Try.prog 11 = some [.str ByteArray.empty] := by kernel_rfl
@[simp] theorem T_sz12 : szT Try.prog 12 = 1 := by kernel_rfl
@[simp] theorem T_ag12 : aggT Try.prog 12 = some false := by kernel_rfl
@[simp] theorem T_el12 : elT Try.prog 12 = none := by kernel_rfl
@[simp] theorem T_ar12 : arrT Try.prog 12 = none := by kernel_rfl
@[simp] theorem T_in12 : intT Try.prog 12 = some .u64 := by kernel_rfl
@[simp] theorem T_bo12 : boolT Try.prog 12 = false := by kernel_rfl
@[simp] theorem T_bt12 : byteT Try.prog 12 = false := by kernel_rfl
@[simp] theorem T_by12 : byT Try.prog 12 = 8 := by kernel_rfl
@[simp] theorem T_z12 : zT Try.prog 12 = some [.int .u64 0] := by kernel_rfl
@[simp] theorem T_sz13 : szT Try.prog 13 = 2 := by kernel_rfl
@[simp] theorem T_ag13 : aggT Try.prog 13 = some true := by kernel_rfl
@[simp] theorem T_el13 : elT Try.prog 13 = none := by kernel_rfl
@[simp] theorem T_ar13 : arrT Try.prog 13 = none := by kernel_rfl
@[simp] theorem T_by13 : byT Try.prog 13 = 24 := by kernel_rfl
@[simp] theorem T_f13_0 : fldT Try.prog 13 0 = some (0, 9) := by kernel_rfl
@[simp] theorem T_f13_1 : fldT Try.prog 13 1 = some (1, 12) := by kernel_rfl
@[simp] theorem T_if13 : infoAll Try.prog 13 = true := by kernel_rfl
@[simp] theorem T_z13 : zT Try.prog 13 = some [.str ByteArray.empty, .int .u64 0] := by kernel_rfl
@[simp] theorem T_sz14 : szT Try.prog 14 = 2 := by kernel_rfl
@[simp] theorem T_ag14 : aggT Try.prog 14 = some true := by kernel_rfl
@[simp] theorem T_el14 : elT Try.prog 14 = none := by kernel_rfl
@[simp] theorem T_ar14 : arrT Try.prog 14 = none := by kernel_rfl
@[simp] theorem T_by14 : byT Try.prog 14 = 24 := by kernel_rfl
@[simp] theorem T_f14_0 : fldT Try.prog 14 0 = some (0, 9) := by kernel_rfl
@[simp] theorem T_f14_1 : fldT Try.prog 14 1 = some (1, 12) := by kernel_rfl
@[simp] theorem T_if14 : infoAll Try.prog 14 = true := by kernel_rfl
@[simp] theorem T_z14 : zT Try.prog 14 = some [.str ByteArray.empty, .int .u64 0] := by kernel_rfl
@[simp] theorem T_sz15 : szT Try.prog 15 = 1 := by kernel_rfl
@[simp] theorem T_ag15 : aggT Try.prog 15 = some false := by kernel_rfl
@[simp] theorem T_el15 : elT Try.prog 15 = none := by kernel_rfl
@[simp] theorem T_ar15 : arrT Try.prog 15 = none := by kernel_rfl
@[simp] theorem T_st15 : strT Try.prog 15 = false := by kernel_rfl
@[simp] theorem T_pt15 : ptrT Try.prog 15 = true := by kernel_rfl
@[simp] theorem T_by15 : byT Try.prog 15 = 8 := by kernel_rfl
@[simp] theorem T_z15 : zT Try.prog 15 = some [.nilptr] := by kernel_rfl
@[simp] theorem T_sz16 : szT Try.prog 16 = 1 := by kernel_rfl
@[simp] theorem T_ag16 : aggT Try.prog 16 = some false := by kernel_rfl
@[simp] theorem T_el16 : elT Try.prog 16 = none := by kernel_rfl
@[simp] theorem T_ar16 : arrT Try.prog 16 = none := by kernel_rfl
@[simp] theorem T_st16 : strT Try.prog 16 = false := by kernel_rfl
@[simp] theorem T_pt16 : ptrT Try.prog 16 = true := by kernel_rfl
@[simp] theorem T_by16 : byT Try.prog 16 = 8 := by kernel_rfl
@[simp] theorem T_z16 : zT Try.prog 16 = some [.nilptr] := by kernel_rfl
@[simp] theorem T_sz17 : szT Try.prog 17 = 1 := by kernel_rfl
@[simp] theorem T_ag17 : aggT Try.prog 17 = some false := by kernel_rfl
@[simp] theorem T_el17 : elT Try.prog 17 = none := by kernel_rfl
@[simp] theorem T_ar17 : arrT Try.prog 17 = none := by kernel_rfl
@[simp] theorem T_st17 : strT Try.prog 17 = false := by kernel_rfl
@[simp] theorem T_pt17 : ptrT Try.prog 17 = true := by kernel_rfl
@[simp] theorem T_by17 : byT Try.prog 17 = 8 := by kernel_rfl
@[simp] theorem T_z17 : zT Try.prog 17 = some [.nilptr] := by kernel_rfl
@[simp] theorem T_sz18 : szT Try.prog 18 = 1 := by kernel_rfl
@[simp] theorem T_ag18 : aggT Try.prog 18 = some true := by kernel_rfl
@[simp] theorem T_el18 : elT Try.prog 18 = none := by kernel_rfl
@[simp] theorem T_ar18 : arrT Try.prog 18 = none := by kernel_rfl
@[simp] theorem T_by18 : byT Try.prog 18 = 8 := by kernel_rfl
@[simp] theorem T_f18_0 : fldT Try.prog 18 0 = some (0, 17) := by kernel_rfl
@[simp] theorem T_if18 : infoAll Try.prog 18 = true := by kernel_rfl
@[simp] theorem T_z18 : zT Try.prog 18 = some [.nilptr] := by kernel_rfl
@[simp] theorem T_sz19 : szT Try.prog 19 = 1 := by kernel_rfl
@[simp] theorem T_ag19 : aggT Try.prog 19 = some true := by kernel_rfl
@[simp] theorem T_el19 : elT Try.prog 19 = none := by kernel_rfl
@[simp] theorem T_ar19 : arrT Try.prog 19 = none := by kernel_rfl
@[simp] theorem T_by19 : byT Try.prog 19 = 8 := by kernel_rfl
@[simp] theorem T_f19_0 : fldT Try.prog 19 0 = some (0, 17) := by kernel_rfl
@[simp] theorem T_if19 : infoAll Try.prog 19 = true := by kernel_rfl
@[simp] theorem T_z19 : zT Try.prog 19 = some [.nilptr] := by kernel_rfl
@[simp] theorem T_sz21 : szT Try.prog 21 = 1 := by kernel_rfl
@[simp] theorem T_ag21 : aggT Try.prog 21 = some false := by kernel_rfl
@[simp] theorem T_el21 : elT Try.prog 21 = none := by kernel_rfl
@[simp] theorem T_ar21 : arrT Try.prog 21 = none := by kernel_rfl
@[simp] theorem T_in21 : intT Try.prog 21 = some .i32 := by kernel_rfl
@[simp] theorem T_bo21 : boolT Try.prog 21 = false := by kernel_rfl
@[simp] theorem T_bt21 : byteT Try.prog 21 = false := by kernel_rfl
@[simp] theorem T_by21 : byT Try.prog 21 = 4 := by kernel_rfl
@[simp] theorem T_z21 : zT Try.prog 21 = some [.int .i32 0] := by kernel_rfl
@[simp] theorem T_sz23 : szT Try.prog 23 = 1 := by kernel_rfl
@[simp] theorem T_ag23 : aggT Try.prog 23 = some false := by kernel_rfl
@[simp] theorem T_sz24 : szT Try.prog 24 = 1 := by kernel_rfl
@[simp] theorem T_ag24 : aggT Try.prog 24 = some false := by kernel_rfl
@[simp] theorem T_sz25 : szT Try.prog 25 = 1 := by kernel_rfl
@[simp] theorem T_ag25 : aggT Try.prog 25 = some false := by kernel_rfl
@[simp] theorem T_sz26 : szT Try.prog 26 = 1 := by kernel_rfl
@[simp] theorem T_ag26 : aggT Try.prog 26 = some false := by kernel_rfl
@[simp] theorem T_el26 : elT Try.prog 26 = some 28 := by kernel_rfl
@[simp] theorem T_ar26 : arrT Try.prog 26 = none := by kernel_rfl
@[simp] theorem T_st26 : strT Try.prog 26 = false := by kernel_rfl
@[simp] theorem T_by26 : byT Try.prog 26 = 24 := by kernel_rfl
@[simp] theorem T_z26 : zT Try.prog 26 = some [.slice 5 true []] := by kernel_rfl
@[simp] theorem T_sz27 : szT Try.prog 27 = 5 := by kernel_rfl
@[simp] theorem T_ag27 : aggT Try.prog 27 = some true := by kernel_rfl
@[simp] theorem T_el27 : elT Try.prog 27 = none := by kernel_rfl
@[simp] theorem T_ar27 : arrT Try.prog 27 = none := by kernel_rfl
@[simp] theorem T_by27 : byT Try.prog 27 = 64 := by kernel_rfl
@[simp] theorem T_f27_0 : fldT Try.prog 27 0 = some (0, 3) := by kernel_rfl
@[simp] theorem T_f27_1 : fldT Try.prog 27 1 = some (1, 3) := by kernel_rfl
@[simp] theorem T_f27_2 : fldT Try.prog 27 2 = some (2, 3) := by kernel_rfl
@[simp] theorem T_f27_3 : fldT Try.prog 27 3 = some (3, 9) := by kernel_rfl
@[simp] theorem T_f27_4 : fldT Try.prog 27 4 = some (4, 26) := by kernel_rfl
@[simp] theorem T_if27 : infoAll Try.prog 27 = true := by kernel_rfl
@[simp] theorem T_z27 : zT Try.prog 27 = some [.int .i64 0, .int .i64 0, .int .i64 0, .str ByteArray.empty, .slice 5 true []] := by kernel_rfl
@[simp] theorem T_sz28 : szT Try.prog 28 = 5 := by kernel_rfl
@[simp] theorem T_ag28 : aggT Try.prog 28 = some true := by kernel_rfl
@[simp] theorem T_el28 : elT Try.prog 28 = none := by kernel_rfl
@[simp] theorem T_ar28 : arrT Try.prog 28 = none := by kernel_rfl
@[simp] theorem T_by28 : byT Try.prog 28 = 64 := by kernel_rfl
@[simp] theorem T_f28_0 : fldT Try.prog 28 0 = some (0, 3) := by kernel_rfl
@[simp] theorem T_f28_1 : fldT Try.prog 28 1 = some (1, 3) := by kernel_rfl
@[simp] theorem T_f28_2 : fldT Try.prog 28 2 = some (2, 3) := by kernel_rfl
@[simp] theorem T_f28_3 : fldT Try.prog 28 3 = some (3, 9) := by kernel_rfl
@[simp] theorem T_f28_4 : fldT Try.prog 28 4 = some (4, 26) := by kernel_rfl
@[simp] theorem T_if28 : infoAll Try.prog 28 = true := by kernel_rfl
@[simp] theorem T_z28 : zT Try.prog 28 = some [.int .i64 0, .int .i64 0, .int .i64 0, .str ByteArray.empty, .slice 5 true []] := by kernel_rfl
@[simp] theorem T_sz29 : szT Try.prog 29 = 1 := by kernel_rfl
@[simp] theorem T_ag29 : aggT Try.prog 29 = some false := by kernel_rfl
@[simp] theorem T_el29 : elT Try.prog 29 = some 31 := by kernel_rfl
@[simp] theorem T_ar29 : arrT Try.prog 29 = none := by kernel_rfl
@[simp] theorem T_st29 : strT Try.prog 29 = false := by kernel_rfl
@[simp] theorem T_by29 : byT Try.prog 29 = 24 := by kernel_rfl
@[simp] theorem T_z29 : zT Try.prog 29 = some [.slice 9 true []] := by kernel_rfl
@[simp] theorem T_sz30 : szT Try.prog 30 = 9 := by kernel_rfl
@[simp] theorem T_ag30 : aggT Try.prog 30 = some true := by kernel_rfl
@[simp] theorem T_el30 : elT Try.prog 30 = none := by kernel_rfl
@[simp] theorem T_ar30 : arrT Try.prog 30 = none := by kernel_rfl
@[simp] theorem T_by30 : byT Try.prog 30 = 120 := by kernel_rfl
@[simp] theorem T_f30_0 : fldT Try.prog 30 0 = some (0, 3) := by kernel_rfl
@[simp] theorem T_f30_1 : fldT Try.prog 30 1 = some (1, 28) := by kernel_rfl
@[simp] theorem T_f30_2 : fldT Try.prog 30 2 = some (6, 9) := by kernel_rfl
@[simp] theorem T_f30_3 : fldT Try.prog 30 3 = some (7, 4) := by kernel_rfl
@[simp] theorem T_f30_4 : fldT Try.prog 30 4 = some (8, 29) := by kernel_rfl
@[simp] theorem T_if30 : infoAll Try.prog 30 = true := by kernel_rfl
@[simp] theorem T_z30 : zT Try.prog 30 = some [.int .i64 0, .int .i64 0, .int .i64 0, .int .i64 0, .str ByteArray.empty, .slice 5 true [], .str ByteArray.empty, .bool false, .slice 9 true []] := by kernel_rfl
@[simp] theorem T_sz31 : szT Try.prog 31 = 9 := by kernel_rfl
@[simp] theorem T_ag31 : aggT Try.prog 31 = some true := by kernel_rfl
@[simp] theorem T_el31 : elT Try.prog 31 = none := by kernel_rfl
@[simp] theorem T_ar31 : arrT Try.prog 31 = none := by kernel_rfl
@[simp] theorem T_by31 : byT Try.prog 31 = 120 := by kernel_rfl
@[simp] theorem T_f31_0 : fldT Try.prog 31 0 = some (0, 3) := by kernel_rfl
@[simp] theorem T_f31_1 : fldT Try.prog 31 1 = some (1, 28) := by kernel_rfl
@[simp] theorem T_f31_2 : fldT Try.prog 31 2 = some (6, 9) := by kernel_rfl
@[simp] theorem T_f31_3 : fldT Try.prog 31 3 = some (7, 4) := by kernel_rfl
@[simp] theorem T_f31_4 : fldT Try.prog 31 4 = some (8, 29) := by kernel_rfl
@[simp] theorem T_if31 : infoAll Try.prog 31 = true := by kernel_rfl
@[simp] theorem T_z31 : zT Try.prog 31 = some [.int .i64 0, .int .i64 0, .int .i64 0, .int .i64 0, .str ByteArray.empty, .slice 5 true [], .str ByteArray.empty, .bool false, .slice 9 true []] := by kernel_rfl
@[simp] theorem T_sz32 : szT Try.prog 32 = 1 := by kernel_rfl
@[simp] theorem T_ag32 : aggT Try.prog 32 = some false := by kernel_rfl
@[simp] theorem T_sz33 : szT Try.prog 33 = 1 := by kernel_rfl
@[simp] theorem T_ag33 : aggT Try.prog 33 = some false := by kernel_rfl
@[simp] theorem T_el33 : elT Try.prog 33 = none := by kernel_rfl
@[simp] theorem T_ar33 : arrT Try.prog 33 = none := by kernel_rfl
@[simp] theorem T_in33 : intT Try.prog 33 = some .i64 := by kernel_rfl
@[simp] theorem T_bo33 : boolT Try.prog 33 = false := by kernel_rfl
@[simp] theorem T_bt33 : byteT Try.prog 33 = false := by kernel_rfl
@[simp] theorem T_by33 : byT Try.prog 33 = 8 := by kernel_rfl
@[simp] theorem T_z33 : zT Try.prog 33 = some [.int .i64 0] := by kernel_rfl
@[simp] theorem T_sz34 : szT Try.prog 34 = 1 := by kernel_rfl
@[simp] theorem T_ag34 : aggT Try.prog 34 = some false := by kernel_rfl
@[simp] theorem T_sz35 : szT Try.prog 35 = 1 := by kernel_rfl
@[simp] theorem T_ag35 : aggT Try.prog 35 = some false := by kernel_rfl
@[simp] theorem T_sz36 : szT Try.prog 36 = 1 := by kernel_rfl
@[simp] theorem T_ag36 : aggT Try.prog 36 = some false := by kernel_rfl
@[simp] theorem T_el36 : elT Try.prog 36 = some 45 := by kernel_rfl
@[simp] theorem T_ar36 : arrT Try.prog 36 = none := by kernel_rfl
@[simp] theorem T_st36 : strT Try.prog 36 = false := by kernel_rfl
@[simp] theorem T_by36 : byT Try.prog 36 = 24 := by kernel_rfl
@[simp] theorem T_z36 : zT Try.prog 36 = some [.slice 21 true []] := by kernel_rfl
@[simp] theorem T_sz37 : szT Try.prog 37 = 1 := by kernel_rfl
@[simp] theorem T_ag37 : aggT Try.prog 37 = some true := by kernel_rfl
@[simp] theorem T_el37 : elT Try.prog 37 = none := by kernel_rfl
@[simp] theorem T_ar37 : arrT Try.prog 37 = none := by kernel_rfl
@[simp] theorem T_by37 : byT Try.prog 37 = 24 := by kernel_rfl
@[simp] theorem T_f37_0 : fldT Try.prog 37 0 = some (0, 36) := by kernel_rfl
@[simp] theorem T_if37 : infoAll Try.prog 37 = true := by kernel_rfl
@[simp] theorem T_z37 : zT Try.prog 37 = some [.slice 21 true []] := by kernel_rfl
@[simp] theorem T_sz38 : szT Try.prog 38 = 1 := by kernel_rfl
@[simp] theorem T_ag38 : aggT Try.prog 38 = some true := by kernel_rfl
@[simp] theorem T_el38 : elT Try.prog 38 = none := by kernel_rfl
@[simp] theorem T_ar38 : arrT Try.prog 38 = none := by kernel_rfl
@[simp] theorem T_by38 : byT Try.prog 38 = 24 := by kernel_rfl
@[simp] theorem T_f38_0 : fldT Try.prog 38 0 = some (0, 36) := by kernel_rfl
@[simp] theorem T_if38 : infoAll Try.prog 38 = true := by kernel_rfl
@[simp] theorem T_z38 : zT Try.prog 38 = some [.slice 21 true []] := by kernel_rfl
@[simp] theorem T_sz39 : szT Try.prog 39 = 1 := by kernel_rfl
@[simp] theorem T_ag39 : aggT Try.prog 39 = some false := by kernel_rfl
@[simp] theorem T_el39 : elT Try.prog 39 = some 58 := by kernel_rfl
@[simp] theorem T_ar39 : arrT Try.prog 39 = none := by kernel_rfl
@[simp] theorem T_st39 : strT Try.prog 39 = false := by kernel_rfl
@[simp] theorem T_by39 : byT Try.prog 39 = 24 := by kernel_rfl
@[simp] theorem T_z39 : zT Try.prog 39 = some [.slice 3 true []] := by kernel_rfl
@[simp] theorem T_sz40 : szT Try.prog 40 = 1 := by kernel_rfl
@[simp] theorem T_ag40 : aggT Try.prog 40 = some false := by kernel_rfl
@[simp] theorem T_el40 : elT Try.prog 40 = some 62 := by kernel_rfl
@[simp] theorem T_ar40 : arrT Try.prog 40 = none := by kernel_rfl
@[simp] theorem T_st40 : strT Try.prog 40 = false := by kernel_rfl
@[simp] theorem T_by40 : byT Try.prog 40 = 24 := by kernel_rfl
@[simp] theorem T_z40 : zT Try.prog 40 = some [.slice 10 true []] := by kernel_rfl
@[simp] theorem T_sz41 : szT Try.prog 41 = 1 := by kernel_rfl
@[simp] theorem T_ag41 : aggT Try.prog 41 = some false := by kernel_rfl
@[simp] theorem T_el41 : elT Try.prog 41 = some 68 := by kernel_rfl
@[simp] theorem T_ar41 : arrT Try.prog 41 = none := by kernel_rfl
@[simp] theorem T_st41 : strT Try.prog 41 = false := by kernel_rfl
@[simp] theorem T_by41 : byT Try.prog 41 = 24 := by kernel_rfl
@[simp] theorem T_z41 : zT Try.prog 41 = some [.slice 10 true []] := by kernel_rfl
@[simp] theorem T_sz42 : szT Try.prog 42 = 1 := by kernel_rfl
@[simp] theorem T_ag42 : aggT Try.prog 42 = some false := by kernel_rfl
@[simp] theorem T_el42 : elT Try.prog 42 = some 70 := by kernel_rfl
@[simp] theorem T_ar42 : arrT Try.prog 42 = none := by kernel_rfl
@[simp] theorem T_st42 : strT Try.prog 42 = false := by kernel_rfl
@[simp] theorem T_by42 : byT Try.prog 42 = 24 := by kernel_rfl
@[simp] theorem T_z42 : zT Try.prog 42 = some [.slice 13 true []] := by kernel_rfl
@[simp] theorem T_sz43 : szT Try.prog 43 = 1 := by kernel_rfl
@[simp] theorem T_ag43 : aggT Try.prog 43 = some false := by kernel_rfl
@[simp] theorem T_el43 : elT Try.prog 43 = some 9 := by kernel_rfl
@[simp] theorem T_ar43 : arrT Try.prog 43 = none := by kernel_rfl
@[simp] theorem T_st43 : strT Try.prog 43 = false := by kernel_rfl
@[simp] theorem T_by43 : byT Try.prog 43 = 24 := by kernel_rfl
@[simp] theorem T_z43 : zT Try.prog 43 = some [.slice 1 true []] := by kernel_rfl
@[simp] theorem T_sz44 : szT Try.prog 44 = 21 := by kernel_rfl
@[simp] theorem T_ag44 : aggT Try.prog 44 = some true := by kernel_rfl
@[simp] theorem T_el44 : elT Try.prog 44 = none := by kernel_rfl
@[simp] theorem T_ar44 : arrT Try.prog 44 = none := by kernel_rfl
@[simp] theorem T_by44 : byT Try.prog 44 = 312 := by kernel_rfl
@[simp] theorem T_f44_0 : fldT Try.prog 44 0 = some (0, 3) := by kernel_rfl
@[simp] theorem T_f44_1 : fldT Try.prog 44 1 = some (1, 4) := by kernel_rfl
@[simp] theorem T_f44_2 : fldT Try.prog 44 2 = some (2, 4) := by kernel_rfl
@[simp] theorem T_f44_3 : fldT Try.prog 44 3 = some (3, 39) := by kernel_rfl
@[simp] theorem T_f44_4 : fldT Try.prog 44 4 = some (4, 29) := by kernel_rfl
@[simp] theorem T_f44_5 : fldT Try.prog 44 5 = some (5, 31) := by kernel_rfl
@[simp] theorem T_f44_6 : fldT Try.prog 44 6 = some (14, 9) := by kernel_rfl
@[simp] theorem T_f44_7 : fldT Try.prog 44 7 = some (15, 40) := by kernel_rfl
@[simp] theorem T_f44_8 : fldT Try.prog 44 8 = some (16, 41) := by kernel_rfl
@[simp] theorem T_f44_9 : fldT Try.prog 44 9 = some (17, 3) := by kernel_rfl
@[simp] theorem T_f44_10 : fldT Try.prog 44 10 = some (18, 3) := by kernel_rfl
@[simp] theorem T_f44_11 : fldT Try.prog 44 11 = some (19, 42) := by kernel_rfl
@[simp] theorem T_f44_12 : fldT Try.prog 44 12 = some (20, 43) := by kernel_rfl
@[simp] theorem T_if44 : infoAll Try.prog 44 = true := by kernel_rfl
@[simp] theorem T_z44 : zT Try.prog 44 = some [.int .i64 0, .bool false, .bool false, .slice 3 true [], .slice 9 true [], .int .i64 0, .int .i64 0, .int .i64 0, .int .i64 0, .str ByteArray.empty, .slice 5 true [], .str ByteArray.empty, .bool false, .slice 9 true [], .str ByteArray.empty, .slice 10 true [], .slice 10 true [], .int .i64 0, .int .i64 0, .slice 13 true [], .slice 1 true []] := by kernel_rfl
@[simp] theorem T_sz45 : szT Try.prog 45 = 21 := by kernel_rfl
@[simp] theorem T_ag45 : aggT Try.prog 45 = some true := by kernel_rfl
@[simp] theorem T_el45 : elT Try.prog 45 = none := by kernel_rfl
@[simp] theorem T_ar45 : arrT Try.prog 45 = none := by kernel_rfl
@[simp] theorem T_by45 : byT Try.prog 45 = 312 := by kernel_rfl
@[simp] theorem T_f45_0 : fldT Try.prog 45 0 = some (0, 3) := by kernel_rfl
@[simp] theorem T_f45_1 : fldT Try.prog 45 1 = some (1, 4) := by kernel_rfl
@[simp] theorem T_f45_2 : fldT Try.prog 45 2 = some (2, 4) := by kernel_rfl
@[simp] theorem T_f45_3 : fldT Try.prog 45 3 = some (3, 39) := by kernel_rfl
@[simp] theorem T_f45_4 : fldT Try.prog 45 4 = some (4, 29) := by kernel_rfl
@[simp] theorem T_f45_5 : fldT Try.prog 45 5 = some (5, 31) := by kernel_rfl
@[simp] theorem T_f45_6 : fldT Try.prog 45 6 = some (14, 9) := by kernel_rfl
@[simp] theorem T_f45_7 : fldT Try.prog 45 7 = some (15, 40) := by kernel_rfl
@[simp] theorem T_f45_8 : fldT Try.prog 45 8 = some (16, 41) := by kernel_rfl
@[simp] theorem T_f45_9 : fldT Try.prog 45 9 = some (17, 3) := by kernel_rfl
@[simp] theorem T_f45_10 : fldT Try.prog 45 10 = some (18, 3) := by kernel_rfl
@[simp] theorem T_f45_11 : fldT Try.prog 45 11 = some (19, 42) := by kernel_rfl
@[simp] theorem T_f45_12 : fldT Try.prog 45 12 = some (20, 43) := by kernel_rfl
@[simp] theorem T_if45 : infoAll Try.prog 45 = true := by kernel_rfl
@[simp] theorem T_z45 : zT Try.prog 45 = some [.int .i64 0, .bool false, .bool false, .slice 3 true [], .slice 9 true [], .int .i64 0, .int .i64 0, .int .i64 0, .int .i64 0, .str ByteArray.empty, .slice 5 true [], .str ByteArray.empty, .bool false, .slice 9 true [], .str ByteArray.empty, .slice 10 true [], .slice 10 true [], .int .i64 0, .int .i64 0, .slice 13 true [], .slice 1 true []] := by kernel_rfl
@[simp] theorem T_sz46 : szT Try.prog 46 = 1 := by kernel_rfl
@[simp] theorem T_ag46 : aggT Try.prog 46 = some false := by kernel_rfl
@[simp] theorem T_sz47 : szT Try.prog 47 = 1 := by kernel_rfl
@[simp] theorem T_ag47 : aggT Try.prog 47 = some false := by kernel_rfl
@[simp] theorem T_sz49 : szT Try.prog 49 = 1 := by kernel_rfl
@[simp] theorem T_ag49 : aggT Try.prog 49 = some false := by kernel_rfl
@[simp] theorem T_sz50 : szT Try.prog 50 = 1 := by kernel_rfl
@[simp] theorem T_ag50 : aggT Try.prog 50 = some false := by kernel_rfl
@[simp] theorem T_sz51 : szT Try.prog 51 = 1 := by kernel_rfl
@[simp] theorem T_ag51 : aggT Try.prog 51 = some false := by kernel_rfl
@[simp] theorem T_sz52 : szT Try.prog 52 = 1 := by kernel_rfl
@[simp] theorem T_ag52 : aggT Try.prog 52 = some false := by kernel_rfl
@[simp] theorem T_el52 : elT Try.prog 52 = some 87 := by kernel_rfl
@[simp] theorem T_ar52 : arrT Try.prog 52 = none := by kernel_rfl
@[simp] theorem T_st52 : strT Try.prog 52 = false := by kernel_rfl
@[simp] theorem T_by52 : byT Try.prog 52 = 24 := by kernel_rfl
@[simp] theorem T_z52 : zT Try.prog 52 = some [.slice 10 true []] := by kernel_rfl
@[simp] theorem T_sz53 : szT Try.prog 53 = 7 := by kernel_rfl
@[simp] theorem T_ag53 : aggT Try.prog 53 = some true := by kernel_rfl
@[simp] theorem T_el53 : elT Try.prog 53 = none := by kernel_rfl
@[simp] theorem T_ar53 : arrT Try.prog 53 = none := by kernel_rfl
@[simp] theorem T_by53 : byT Try.prog 53 = 96 := by kernel_rfl
@[simp] theorem T_f53_0 : fldT Try.prog 53 0 = some (0, 9) := by kernel_rfl
@[simp] theorem T_f53_1 : fldT Try.prog 53 1 = some (1, 43) := by kernel_rfl
@[simp] theorem T_f53_2 : fldT Try.prog 53 2 = some (2, 3) := by kernel_rfl
@[simp] theorem T_f53_3 : fldT Try.prog 53 3 = some (3, 3) := by kernel_rfl
@[simp] theorem T_f53_4 : fldT Try.prog 53 4 = some (4, 3) := by kernel_rfl
@[simp] theorem T_f53_5 : fldT Try.prog 53 5 = some (5, 3) := by kernel_rfl
@[simp] theorem T_f53_6 : fldT Try.prog 53 6 = some (6, 52) := by kernel_rfl
@[simp] theorem T_if53 : infoAll Try.prog 53 = true := by kernel_rfl
@[simp] theorem T_z53 : zT Try.prog 53 = some [.str ByteArray.empty, .slice 1 true [], .int .i64 0, .int .i64 0, .int .i64 0, .int .i64 0, .slice 10 true []] := by kernel_rfl
@[simp] theorem T_sz54 : szT Try.prog 54 = 7 := by kernel_rfl
@[simp] theorem T_ag54 : aggT Try.prog 54 = some true := by kernel_rfl
@[simp] theorem T_el54 : elT Try.prog 54 = none := by kernel_rfl
@[simp] theorem T_ar54 : arrT Try.prog 54 = none := by kernel_rfl
@[simp] theorem T_by54 : byT Try.prog 54 = 96 := by kernel_rfl
@[simp] theorem T_f54_0 : fldT Try.prog 54 0 = some (0, 9) := by kernel_rfl
@[simp] theorem T_f54_1 : fldT Try.prog 54 1 = some (1, 43) := by kernel_rfl
@[simp] theorem T_f54_2 : fldT Try.prog 54 2 = some (2, 3) := by kernel_rfl
@[simp] theorem T_f54_3 : fldT Try.prog 54 3 = some (3, 3) := by kernel_rfl
@[simp] theorem T_f54_4 : fldT Try.prog 54 4 = some (4, 3) := by kernel_rfl
@[simp] theorem T_f54_5 : fldT Try.prog 54 5 = some (5, 3) := by kernel_rfl
@[simp] theorem T_f54_6 : fldT Try.prog 54 6 = some (6, 52) := by kernel_rfl
@[simp] theorem T_if54 : infoAll Try.prog 54 = true := by kernel_rfl
@[simp] theorem T_z54 : zT Try.prog 54 = some [.str ByteArray.empty, .slice 1 true [], .int .i64 0, .int .i64 0, .int .i64 0, .int .i64 0, .slice 10 true []] := by kernel_rfl
@[simp] theorem T_sz55 : szT Try.prog 55 = 1 := by kernel_rfl
@[simp] theorem T_ag55 : aggT Try.prog 55 = some false := by kernel_rfl
@[simp] theorem T_el55 : elT Try.prog 55 = some 60 := by kernel_rfl
@[simp] theorem T_ar55 : arrT Try.prog 55 = none := by kernel_rfl
@[simp] theorem T_st55 : strT Try.prog 55 = false := by kernel_rfl
@[simp] theorem T_by55 : byT Try.prog 55 = 24 := by kernel_rfl
@[simp] theorem T_z55 : zT Try.prog 55 = some [.slice 3 true []] := by kernel_rfl
@[simp] theorem T_sz56 : szT Try.prog 56 = 1 := by kernel_rfl
@[simp] theorem T_ag56 : aggT Try.prog 56 = some false := by kernel_rfl
@[simp] theorem T_el56 : elT Try.prog 56 = some 54 := by kernel_rfl
@[simp] theorem T_ar56 : arrT Try.prog 56 = none := by kernel_rfl
@[simp] theorem T_st56 : strT Try.prog 56 = false := by kernel_rfl
@[simp] theorem T_by56 : byT Try.prog 56 = 24 := by kernel_rfl
@[simp] theorem T_z56 : zT Try.prog 56 = some [.slice 7 true []] := by kernel_rfl
@[simp] theorem T_sz57 : szT Try.prog 57 = 3 := by kernel_rfl
@[simp] theorem T_ag57 : aggT Try.prog 57 = some true := by kernel_rfl
@[simp] theorem T_el57 : elT Try.prog 57 = none := by kernel_rfl
@[simp] theorem T_ar57 : arrT Try.prog 57 = none := by kernel_rfl
@[simp] theorem T_by57 : byT Try.prog 57 = 64 := by kernel_rfl
@[simp] theorem T_f57_0 : fldT Try.prog 57 0 = some (0, 9) := by kernel_rfl
@[simp] theorem T_f57_1 : fldT Try.prog 57 1 = some (1, 55) := by kernel_rfl
@[simp] theorem T_f57_2 : fldT Try.prog 57 2 = some (2, 56) := by kernel_rfl
@[simp] theorem T_if57 : infoAll Try.prog 57 = true := by kernel_rfl
@[simp] theorem T_z57 : zT Try.prog 57 = some [.str ByteArray.empty, .slice 3 true [], .slice 7 true []] := by kernel_rfl
@[simp] theorem T_sz58 : szT Try.prog 58 = 3 := by kernel_rfl
@[simp] theorem T_ag58 : aggT Try.prog 58 = some true := by kernel_rfl
@[simp] theorem T_el58 : elT Try.prog 58 = none := by kernel_rfl
@[simp] theorem T_ar58 : arrT Try.prog 58 = none := by kernel_rfl
@[simp] theorem T_by58 : byT Try.prog 58 = 64 := by kernel_rfl
@[simp] theorem T_f58_0 : fldT Try.prog 58 0 = some (0, 9) := by kernel_rfl
@[simp] theorem T_f58_1 : fldT Try.prog 58 1 = some (1, 55) := by kernel_rfl
@[simp] theorem T_f58_2 : fldT Try.prog 58 2 = some (2, 56) := by kernel_rfl
@[simp] theorem T_if58 : infoAll Try.prog 58 = true := by kernel_rfl
@[simp] theorem T_z58 : zT Try.prog 58 = some [.str ByteArray.empty, .slice 3 true [], .slice 7 true []] := by kernel_rfl
@[simp] theorem T_sz59 : szT Try.prog 59 = 3 := by kernel_rfl
@[simp] theorem T_ag59 : aggT Try.prog 59 = some true := by kernel_rfl
@[simp] theorem T_el59 : elT Try.prog 59 = none := by kernel_rfl
@[simp] theorem T_ar59 : arrT Try.prog 59 = none := by kernel_rfl
@[simp] theorem T_by59 : byT Try.prog 59 = 64 := by kernel_rfl
@[simp] theorem T_f59_0 : fldT Try.prog 59 0 = some (0, 9) := by kernel_rfl
@[simp] theorem T_f59_1 : fldT Try.prog 59 1 = some (1, 43) := by kernel_rfl
@[simp] theorem T_f59_2 : fldT Try.prog 59 2 = some (2, 52) := by kernel_rfl
@[simp] theorem T_if59 : infoAll Try.prog 59 = true := by kernel_rfl
@[simp] theorem T_z59 : zT Try.prog 59 = some [.str ByteArray.empty, .slice 1 true [], .slice 10 true []] := by kernel_rfl
@[simp] theorem T_sz60 : szT Try.prog 60 = 3 := by kernel_rfl
@[simp] theorem T_ag60 : aggT Try.prog 60 = some true := by kernel_rfl
@[simp] theorem T_el60 : elT Try.prog 60 = none := by kernel_rfl
@[simp] theorem T_ar60 : arrT Try.prog 60 = none := by kernel_rfl
@[simp] theorem T_by60 : byT Try.prog 60 = 64 := by kernel_rfl
@[simp] theorem T_f60_0 : fldT Try.prog 60 0 = some (0, 9) := by kernel_rfl
@[simp] theorem T_f60_1 : fldT Try.prog 60 1 = some (1, 43) := by kernel_rfl
@[simp] theorem T_f60_2 : fldT Try.prog 60 2 = some (2, 52) := by kernel_rfl
@[simp] theorem T_if60 : infoAll Try.prog 60 = true := by kernel_rfl
@[simp] theorem T_z60 : zT Try.prog 60 = some [.str ByteArray.empty, .slice 1 true [], .slice 10 true []] := by kernel_rfl
@[simp] theorem T_sz61 : szT Try.prog 61 = 10 := by kernel_rfl
@[simp] theorem T_ag61 : aggT Try.prog 61 = some true := by kernel_rfl
@[simp] theorem T_el61 : elT Try.prog 61 = none := by kernel_rfl
@[simp] theorem T_ar61 : arrT Try.prog 61 = none := by kernel_rfl
@[simp] theorem T_by61 : byT Try.prog 61 = 136 := by kernel_rfl
@[simp] theorem T_f61_0 : fldT Try.prog 61 0 = some (0, 31) := by kernel_rfl
@[simp] theorem T_f61_1 : fldT Try.prog 61 1 = some (9, 9) := by kernel_rfl
@[simp] theorem T_if61 : infoAll Try.prog 61 = true := by kernel_rfl
@[simp] theorem T_z61 : zT Try.prog 61 = some [.int .i64 0, .int .i64 0, .int .i64 0, .int .i64 0, .str ByteArray.empty, .slice 5 true [], .str ByteArray.empty, .bool false, .slice 9 true [], .str ByteArray.empty] := by kernel_rfl
@[simp] theorem T_sz62 : szT Try.prog 62 = 10 := by kernel_rfl
@[simp] theorem T_ag62 : aggT Try.prog 62 = some true := by kernel_rfl
@[simp] theorem T_el62 : elT Try.prog 62 = none := by kernel_rfl
@[simp] theorem T_ar62 : arrT Try.prog 62 = none := by kernel_rfl
@[simp] theorem T_by62 : byT Try.prog 62 = 136 := by kernel_rfl
@[simp] theorem T_f62_0 : fldT Try.prog 62 0 = some (0, 31) := by kernel_rfl
@[simp] theorem T_f62_1 : fldT Try.prog 62 1 = some (9, 9) := by kernel_rfl
@[simp] theorem T_if62 : infoAll Try.prog 62 = true := by kernel_rfl
@[simp] theorem T_z62 : zT Try.prog 62 = some [.int .i64 0, .int .i64 0, .int .i64 0, .int .i64 0, .str ByteArray.empty, .slice 5 true [], .str ByteArray.empty, .bool false, .slice 9 true [], .str ByteArray.empty] := by kernel_rfl
@[simp] theorem T_sz63 : szT Try.prog 63 = 1 := by kernel_rfl
@[simp] theorem T_ag63 : aggT Try.prog 63 = some false := by kernel_rfl
@[simp] theorem T_sz64 : szT Try.prog 64 = 1 := by kernel_rfl
@[simp] theorem T_ag64 : aggT Try.prog 64 = some false := by kernel_rfl
@[simp] theorem T_sz65 : szT Try.prog 65 = 1 := by kernel_rfl
@[simp] theorem T_ag65 : aggT Try.prog 65 = some false := by kernel_rfl
@[simp] theorem T_sz66 : szT Try.prog 66 = 1 := by kernel_rfl
@[simp] theorem T_ag66 : aggT Try.prog 66 = some false := by kernel_rfl
@[simp] theorem T_sz67 : szT Try.prog 67 = 10 := by kernel_rfl
@[simp] theorem T_ag67 : aggT Try.prog 67 = some true := by kernel_rfl
@[simp] theorem T_el67 : elT Try.prog 67 = none := by kernel_rfl
@[simp] theorem T_ar67 : arrT Try.prog 67 = none := by kernel_rfl
@[simp] theorem T_by67 : byT Try.prog 67 = 128 := by kernel_rfl
@[simp] theorem T_f67_0 : fldT Try.prog 67 0 = some (0, 31) := by kernel_rfl
@[simp] theorem T_f67_1 : fldT Try.prog 67 1 = some (9, 4) := by kernel_rfl
@[simp] theorem T_if67 : infoAll Try.prog 67 = true := by kernel_rfl
@[simp] theorem T_z67 : zT Try.prog 67 = some [.int .i64 0, .int .i64 0, .int .i64 0, .int .i64 0, .str ByteArray.empty, .slice 5 true [], .str ByteArray.empty, .bool false, .slice 9 true [], .bool false] := by kernel_rfl
@[simp] theorem T_sz68 : szT Try.prog 68 = 10 := by kernel_rfl
@[simp] theorem T_ag68 : aggT Try.prog 68 = some true := by kernel_rfl
@[simp] theorem T_el68 : elT Try.prog 68 = none := by kernel_rfl
@[simp] theorem T_ar68 : arrT Try.prog 68 = none := by kernel_rfl
@[simp] theorem T_by68 : byT Try.prog 68 = 128 := by kernel_rfl
@[simp] theorem T_f68_0 : fldT Try.prog 68 0 = some (0, 31) := by kernel_rfl
@[simp] theorem T_f68_1 : fldT Try.prog 68 1 = some (9, 4) := by kernel_rfl
@[simp] theorem T_if68 : infoAll Try.prog 68 = true := by kernel_rfl
@[simp] theorem T_z68 : zT Try.prog 68 = some [.int .i64 0, .int .i64 0, .int .i64 0, .int .i64 0, .str ByteArray.empty, .slice 5 true [], .str ByteArray.empty, .bool false, .slice 9 true [], .bool false] := by kernel_rfl
@[simp] theorem T_sz69 : szT Try.prog 69 = 13 := by kernel_rfl
@[simp] theorem T_ag69 : aggT Try.prog 69 = some true := by kernel_rfl
@[simp] theorem T_el69 : elT Try.prog 69 = none := by kernel_rfl
@[simp] theorem T_ar69 : arrT Try.prog 69 = none := by kernel_rfl
@[simp] theorem T_by69 : byT Try.prog 69 = 176 := by kernel_rfl
@[simp] theorem T_f69_0 : fldT Try.prog 69 0 = some (0, 9) := by kernel_rfl
@[simp] theorem T_f69_1 : fldT Try.prog 69 1 = some (1, 9) := by kernel_rfl
@[simp] theorem T_f69_2 : fldT Try.prog 69 2 = some (2, 9) := by kernel_rfl
@[simp] theorem T_f69_3 : fldT Try.prog 69 3 = some (3, 4) := by kernel_rfl
@[simp] theorem T_f69_4 : fldT Try.prog 69 4 = some (4, 31) := by kernel_rfl
@[simp] theorem T_if69 : infoAll Try.prog 69 = true := by kernel_rfl
@[simp] theorem T_z69 : zT Try.prog 69 = some [.str ByteArray.empty, .str ByteArray.empty, .str ByteArray.empty, .bool false, .int .i64 0, .int .i64 0, .int .i64 0, .int .i64 0, .str ByteArray.empty, .slice 5 true [], .str ByteArray.empty, .bool false, .slice 9 true []] := by kernel_rfl
@[simp] theorem T_sz70 : szT Try.prog 70 = 13 := by kernel_rfl
@[simp] theorem T_ag70 : aggT Try.prog 70 = some true := by kernel_rfl
@[simp] theorem T_el70 : elT Try.prog 70 = none := by kernel_rfl
@[simp] theorem T_ar70 : arrT Try.prog 70 = none := by kernel_rfl
@[simp] theorem T_by70 : byT Try.prog 70 = 176 := by kernel_rfl
@[simp] theorem T_f70_0 : fldT Try.prog 70 0 = some (0, 9) := by kernel_rfl
@[simp] theorem T_f70_1 : fldT Try.prog 70 1 = some (1, 9) := by kernel_rfl
@[simp] theorem T_f70_2 : fldT Try.prog 70 2 = some (2, 9) := by kernel_rfl
@[simp] theorem T_f70_3 : fldT Try.prog 70 3 = some (3, 4) := by kernel_rfl
@[simp] theorem T_f70_4 : fldT Try.prog 70 4 = some (4, 31) := by kernel_rfl
@[simp] theorem T_if70 : infoAll Try.prog 70 = true := by kernel_rfl
@[simp] theorem T_z70 : zT Try.prog 70 = some [.str ByteArray.empty, .str ByteArray.empty, .str ByteArray.empty, .bool false, .int .i64 0, .int .i64 0, .int .i64 0, .int .i64 0, .str ByteArray.empty, .slice 5 true [], .str ByteArray.empty, .bool false, .slice 9 true []] := by kernel_rfl
@[simp] theorem T_sz71 : szT Try.prog 71 = 1 := by kernel_rfl
@[simp] theorem T_ag71 : aggT Try.prog 71 = some false := by kernel_rfl
@[simp] theorem T_sz72 : szT Try.prog 72 = 1 := by kernel_rfl
@[simp] theorem T_ag72 : aggT Try.prog 72 = some true := by kernel_rfl
@[simp] theorem T_el72 : elT Try.prog 72 = none := by kernel_rfl
@[simp] theorem T_ar72 : arrT Try.prog 72 = none := by kernel_rfl
@[simp] theorem T_by72 : byT Try.prog 72 = 8 := by kernel_rfl
@[simp] theorem T_f72_0 : fldT Try.prog 72 0 = some (0, 33) := by kernel_rfl
@[simp] theorem T_if72 : infoAll Try.prog 72 = true := by kernel_rfl
@[simp] theorem T_z72 : zT Try.prog 72 = some [.int .i64 0] := by kernel_rfl
@[simp] theorem T_sz73 : szT Try.prog 73 = 1 := by kernel_rfl
@[simp] theorem T_ag73 : aggT Try.prog 73 = some true := by kernel_rfl
@[simp] theorem T_el73 : elT Try.prog 73 = none := by kernel_rfl
@[simp] theorem T_ar73 : arrT Try.prog 73 = none := by kernel_rfl
@[simp] theorem T_by73 : byT Try.prog 73 = 8 := by kernel_rfl
@[simp] theorem T_f73_0 : fldT Try.prog 73 0 = some (0, 33) := by kernel_rfl
@[simp] theorem T_fl73 : flatT Try.prog 73 = some [.i] := by kernel_rfl
@[simp] theorem T_if73 : infoAll Try.prog 73 = true := by kernel_rfl
@[simp] theorem T_z73 : zT Try.prog 73 = some [.int .i64 0] := by kernel_rfl
@[simp] theorem T_sz74 : szT Try.prog 74 = 1 := by kernel_rfl
@[simp] theorem T_ag74 : aggT Try.prog 74 = some false := by kernel_rfl
@[simp] theorem T_sz75 : szT Try.prog 75 = 1 := by kernel_rfl
@[simp] theorem T_ag75 : aggT Try.prog 75 = some false := by kernel_rfl
@[simp] theorem T_sz76 : szT Try.prog 76 = 1 := by kernel_rfl
@[simp] theorem T_ag76 : aggT Try.prog 76 = some false := by kernel_rfl
@[simp] theorem T_sz77 : szT Try.prog 77 = 1 := by kernel_rfl
@[simp] theorem T_ag77 : aggT Try.prog 77 = some false := by kernel_rfl
@[simp] theorem T_sz78 : szT Try.prog 78 = 1 := by kernel_rfl
@[simp] theorem T_ag78 : aggT Try.prog 78 = some false := by kernel_rfl
@[simp] theorem T_sz79 : szT Try.prog 79 = 1 := by kernel_rfl
@[simp] theorem T_ag79 : aggT Try.prog 79 = some false := by kernel_rfl
@[simp] theorem T_sz80 : szT Try.prog 80 = 1 := by kernel_rfl
@[simp] theorem T_ag80 : aggT Try.prog 80 = some false := by kernel_rfl
@[simp] theorem T_el80 : elT Try.prog 80 = some 83 := by kernel_rfl
@[simp] theorem T_ar80 : arrT Try.prog 80 = none := by kernel_rfl
@[simp] theorem T_st80 : strT Try.prog 80 = false := by kernel_rfl
@[simp] theorem T_by80 : byT Try.prog 80 = 24 := by kernel_rfl
@[simp] theorem T_z80 : zT Try.prog 80 = some [.slice 3 true []] := by kernel_rfl
@[simp] theorem T_sz81 : szT Try.prog 81 = 1 := by kernel_rfl
@[simp] theorem T_ag81 : aggT Try.prog 81 = some false := by kernel_rfl
@[simp] theorem T_sz82 : szT Try.prog 82 = 3 := by kernel_rfl
@[simp] theorem T_ag82 : aggT Try.prog 82 = some true := by kernel_rfl
@[simp] theorem T_el82 : elT Try.prog 82 = none := by kernel_rfl
@[simp] theorem T_ar82 : arrT Try.prog 82 = none := by kernel_rfl
@[simp] theorem T_by82 : byT Try.prog 82 = 64 := by kernel_rfl
@[simp] theorem T_f82_0 : fldT Try.prog 82 0 = some (0, 9) := by kernel_rfl
@[simp] theorem T_f82_1 : fldT Try.prog 82 1 = some (1, 43) := by kernel_rfl
@[simp] theorem T_f82_2 : fldT Try.prog 82 2 = some (2, 52) := by kernel_rfl
@[simp] theorem T_if82 : infoAll Try.prog 82 = true := by kernel_rfl
@[simp] theorem T_z82 : zT Try.prog 82 = some [.str ByteArray.empty, .slice 1 true [], .slice 10 true []] := by kernel_rfl
@[simp] theorem T_sz83 : szT Try.prog 83 = 3 := by kernel_rfl
@[simp] theorem T_ag83 : aggT Try.prog 83 = some true := by kernel_rfl
@[simp] theorem T_el83 : elT Try.prog 83 = none := by kernel_rfl
@[simp] theorem T_ar83 : arrT Try.prog 83 = none := by kernel_rfl
@[simp] theorem T_by83 : byT Try.prog 83 = 64 := by kernel_rfl
@[simp] theorem T_f83_0 : fldT Try.prog 83 0 = some (0, 9) := by kernel_rfl
@[simp] theorem T_f83_1 : fldT Try.prog 83 1 = some (1, 43) := by kernel_rfl
@[simp] theorem T_f83_2 : fldT Try.prog 83 2 = some (2, 52) := by kernel_rfl
@[simp] theorem T_if83 : infoAll Try.prog 83 = true := by kernel_rfl
@[simp] theorem T_z83 : zT Try.prog 83 = some [.str ByteArray.empty, .slice 1 true [], .slice 10 true []] := by kernel_rfl
@[simp] theorem T_sz84 : szT Try.prog 84 = 1 := by kernel_rfl
@[simp] theorem T_ag84 : aggT Try.prog 84 = some false := by kernel_rfl
@[simp] theorem T_sz85 : szT Try.prog 85 = 1 := by kernel_rfl
@[simp] theorem T_ag85 : aggT Try.prog 85 = some false := by kernel_rfl
@[simp] theorem T_sz86 : szT Try.prog 86 = 10 := by kernel_rfl
@[simp] theorem T_ag86 : aggT Try.prog 86 = some true := by kernel_rfl
@[simp] theorem T_el86 : elT Try.prog 86 = none := by kernel_rfl
@[simp] theorem T_ar86 : arrT Try.prog 86 = none := by kernel_rfl
@[simp] theorem T_by86 : byT Try.prog 86 = 136 := by kernel_rfl
@[simp] theorem T_f86_0 : fldT Try.prog 86 0 = some (0, 9) := by kernel_rfl
@[simp] theorem T_f86_1 : fldT Try.prog 86 1 = some (1, 31) := by kernel_rfl
@[simp] theorem T_if86 : infoAll Try.prog 86 = true := by kernel_rfl
@[simp] theorem T_z86 : zT Try.prog 86 = some [.str ByteArray.empty, .int .i64 0, .int .i64 0, .int .i64 0, .int .i64 0, .str ByteArray.empty, .slice 5 true [], .str ByteArray.empty, .bool false, .slice 9 true []] := by kernel_rfl
@[simp] theorem T_sz87 : szT Try.prog 87 = 10 := by kernel_rfl
@[simp] theorem T_ag87 : aggT Try.prog 87 = some true := by kernel_rfl
@[simp] theorem T_el87 : elT Try.prog 87 = none := by kernel_rfl
@[simp] theorem T_ar87 : arrT Try.prog 87 = none := by kernel_rfl
@[simp] theorem T_by87 : byT Try.prog 87 = 136 := by kernel_rfl
@[simp] theorem T_f87_0 : fldT Try.prog 87 0 = some (0, 9) := by kernel_rfl
@[simp] theorem T_f87_1 : fldT Try.prog 87 1 = some (1, 31) := by kernel_rfl
@[simp] theorem T_if87 : infoAll Try.prog 87 = true := by kernel_rfl
@[simp] theorem T_z87 : zT Try.prog 87 = some [.str ByteArray.empty, .int .i64 0, .int .i64 0, .int .i64 0, .int .i64 0, .str ByteArray.empty, .slice 5 true [], .str ByteArray.empty, .bool false, .slice 9 true []] := by kernel_rfl
@[simp] theorem T_sz88 : szT Try.prog 88 = 1 := by kernel_rfl
@[simp] theorem T_ag88 : aggT Try.prog 88 = some false := by kernel_rfl
@[simp] theorem T_sz89 : szT Try.prog 89 = 1 := by kernel_rfl
@[simp] theorem T_ag89 : aggT Try.prog 89 = some false := by kernel_rfl
@[simp] theorem T_sz90 : szT Try.prog 90 = 1 := by kernel_rfl
@[simp] theorem T_ag90 : aggT Try.prog 90 = some false := by kernel_rfl
@[simp] theorem T_sz91 : szT Try.prog 91 = 1 := by kernel_rfl
@[simp] theorem T_ag91 : aggT Try.prog 91 = some false := by kernel_rfl
@[simp] theorem T_el91 : elT Try.prog 91 = some 3 := by kernel_rfl
@[simp] theorem T_ar91 : arrT Try.prog 91 = none := by kernel_rfl
@[simp] theorem T_st91 : strT Try.prog 91 = false := by kernel_rfl
@[simp] theorem T_by91 : byT Try.prog 91 = 24 := by kernel_rfl
@[simp] theorem T_z91 : zT Try.prog 91 = some [.slice 1 true []] := by kernel_rfl
@[simp] theorem T_sz92 : szT Try.prog 92 = 1 := by kernel_rfl
@[simp] theorem T_ag92 : aggT Try.prog 92 = some false := by kernel_rfl
@[simp] theorem T_sz93 : szT Try.prog 93 = 1 := by kernel_rfl
@[simp] theorem T_ag93 : aggT Try.prog 93 = some false := by kernel_rfl
@[simp] theorem T_sz94 : szT Try.prog 94 = 1 := by kernel_rfl
@[simp] theorem T_ag94 : aggT Try.prog 94 = some false := by kernel_rfl
@[simp] theorem T_sz95 : szT Try.prog 95 = 1 := by kernel_rfl
@[simp] theorem T_ag95 : aggT Try.prog 95 = some false := by kernel_rfl
@[simp] theorem T_sz96 : szT Try.prog 96 = 1 := by kernel_rfl
@[simp] theorem T_ag96 : aggT Try.prog 96 = some false := by kernel_rfl
@[simp] theorem T_el96 : elT Try.prog 96 = none := by kernel_rfl
@[simp] theorem T_ar96 : arrT Try.prog 96 = none := by kernel_rfl
@[simp] theorem T_st96 : strT Try.prog 96 = false := by kernel_rfl
@[simp] theorem T_pt96 : ptrT Try.prog 96 = true := by kernel_rfl
@[simp] theorem T_by96 : byT Try.prog 96 = 8 := by kernel_rfl
@[simp] theorem T_z96 : zT Try.prog 96 = some [.nilptr] := by kernel_rfl
@[simp] theorem T_sz97 : szT Try.prog 97 = 1 := by kernel_rfl
@[simp] theorem T_ag97 : aggT Try.prog 97 = some false := by kernel_rfl
@[simp] theorem T_sz98 : szT Try.prog 98 = 1 := by kernel_rfl
@[simp] theorem T_ag98 : aggT Try.prog 98 = some false := by kernel_rfl
@[simp] theorem T_sz99 : szT Try.prog 99 = 1 := by kernel_rfl
@[simp] theorem T_ag99 : aggT Try.prog 99 = some false := by kernel_rfl
@[simp] theorem T_sz100 : szT Try.prog 100 = 1 := by kernel_rfl
@[simp] theorem T_ag100 : aggT Try.prog 100 = some false := by kernel_rfl
@[simp] theorem T_sz101 : szT Try.prog 101 = 1 := by kernel_rfl
@[simp] theorem T_ag101 : aggT Try.prog 101 = some false := by kernel_rfl
@[simp] theorem T_sz102 : szT Try.prog 102 = 1 := by kernel_rfl
@[simp] theorem T_ag102 : aggT Try.prog 102 = some false := by kernel_rfl
@[simp] theorem T_sz103 : szT Try.prog 103 = 1 := by kernel_rfl
@[simp] theorem T_ag103 : aggT Try.prog 103 = some false := by kernel_rfl
@[simp] theorem T_sz104 : szT Try.prog 104 = 1 := by kernel_rfl
@[simp] theorem T_ag104 : aggT Try.prog 104 = some false := by kernel_rfl
@[simp] theorem T_sz105 : szT Try.prog 105 = 1 := by kernel_rfl
@[simp] theorem T_ag105 : aggT Try.prog 105 = some false := by kernel_rfl
@[simp] theorem T_sz106 : szT Try.prog 106 = 1 := by kernel_rfl
@[simp] theorem T_ag106 : aggT Try.prog 106 = some false := by kernel_rfl
@[simp] theorem T_sz107 : szT Try.prog 107 = 1 := by kernel_rfl
@[simp] theorem T_ag107 : aggT Try.prog 107 = some false := by kernel_rfl
@[simp] theorem T_el107 : elT Try.prog 107 = some 5 := by kernel_rfl
@[simp] theorem T_ar107 : arrT Try.prog 107 = none := by kernel_rfl
@[simp] theorem T_st107 : strT Try.prog 107 = false := by kernel_rfl
@[simp] theorem T_by107 : byT Try.prog 107 = 24 := by kernel_rfl
@[simp] theorem T_z107 : zT Try.prog 107 = some [.slice 1 true []] := by kernel_rfl
@[simp] theorem T_sz108 : szT Try.prog 108 = 1 := by kernel_rfl
@[simp] theorem T_ag108 : aggT Try.prog 108 = some false := by kernel_rfl
@[simp] theorem T_sz109 : szT Try.prog 109 = 2 := by kernel_rfl
@[simp] theorem T_ag109 : aggT Try.prog 109 = some true := by kernel_rfl
@[simp] theorem T_el109 : elT Try.prog 109 = none := by kernel_rfl
@[simp] theorem T_ar109 : arrT Try.prog 109 = none := by kernel_rfl
@[simp] theorem T_by109 : byT Try.prog 109 = 16 := by kernel_rfl
@[simp] theorem T_f109_0 : fldT Try.prog 109 0 = some (0, 3) := by kernel_rfl
@[simp] theorem T_f109_1 : fldT Try.prog 109 1 = some (1, 3) := by kernel_rfl
@[simp] theorem T_if109 : infoAll Try.prog 109 = true := by kernel_rfl
@[simp] theorem T_z109 : zT Try.prog 109 = some [.int .i64 0, .int .i64 0] := by kernel_rfl
@[simp] theorem T_sz110 : szT Try.prog 110 = 2 := by kernel_rfl
@[simp] theorem T_ag110 : aggT Try.prog 110 = some true := by kernel_rfl
@[simp] theorem T_el110 : elT Try.prog 110 = none := by kernel_rfl
@[simp] theorem T_ar110 : arrT Try.prog 110 = none := by kernel_rfl
@[simp] theorem T_by110 : byT Try.prog 110 = 16 := by kernel_rfl
@[simp] theorem T_f110_0 : fldT Try.prog 110 0 = some (0, 3) := by kernel_rfl
@[simp] theorem T_f110_1 : fldT Try.prog 110 1 = some (1, 3) := by kernel_rfl
@[simp] theorem T_fl110 : flatT Try.prog 110 = some [.i, .i] := by kernel_rfl
@[simp] theorem T_if110 : infoAll Try.prog 110 = true := by kernel_rfl
@[simp] theorem T_z110 : zT Try.prog 110 = some [.int .i64 0, .int .i64 0] := by kernel_rfl
@[simp] theorem T_sz111 : szT Try.prog 111 = 1 := by kernel_rfl
@[simp] theorem T_ag111 : aggT Try.prog 111 = some false := by kernel_rfl
@[simp] theorem T_sz112 : szT Try.prog 112 = 1 := by kernel_rfl
@[simp] theorem T_ag112 : aggT Try.prog 112 = some false := by kernel_rfl
@[simp] theorem T_sz113 : szT Try.prog 113 = 1 := by kernel_rfl
@[simp] theorem T_ag113 : aggT Try.prog 113 = some false := by kernel_rfl
@[simp] theorem T_sz114 : szT Try.prog 114 = 1 := by kernel_rfl
@[simp] theorem T_ag114 : aggT Try.prog 114 = some false := by kernel_rfl
@[simp] theorem T_sz115 : szT Try.prog 115 = 1 := by kernel_rfl
@[simp] theorem T_ag115 : aggT Try.prog 115 = some false := by kernel_rfl
@[simp] theorem T_sz116 : szT Try.prog 116 = 1 := by kernel_rfl
@[simp] theorem T_ag116 : aggT Try.prog 116 = some false := by kernel_rfl
@[simp] theorem T_sz117 : szT Try.prog 117 = 1 := by kernel_rfl
@[simp] theorem T_ag117 : aggT Try.prog 117 = some false := by kernel_rfl
@[simp] theorem T_sz118 : szT Try.prog 118 = 1 := by kernel_rfl
@[simp] theorem T_ag118 : aggT Try.prog 118 = some false := by kernel_rfl
@[simp] theorem T_sz119 : szT Try.prog 119 = 1 := by kernel_rfl
@[simp] theorem T_ag119 : aggT Try.prog 119 = some false := by kernel_rfl
@[simp] theorem T_sz120 : szT Try.prog 120 = 1 := by kernel_rfl
@[simp] theorem T_ag120 : aggT Try.prog 120 = some false := by kernel_rfl
@[simp] theorem T_sz121 : szT Try.prog 121 = 1 := by kernel_rfl
@[simp] theorem T_ag121 : aggT Try.prog 121 = some false := by kernel_rfl
@[simp] theorem T_el121 : elT Try.prog 121 = none := by kernel_rfl
@[simp] theorem T_ar121 : arrT Try.prog 121 = none := by kernel_rfl
@[simp] theorem T_in121 : intT Try.prog 121 = some .u64 := by kernel_rfl
@[simp] theorem T_bo121 : boolT Try.prog 121 = false := by kernel_rfl
@[simp] theorem T_bt121 : byteT Try.prog 121 = false := by kernel_rfl
@[simp] theorem T_by121 : byT Try.prog 121 = 8 := by kernel_rfl
@[simp] theorem T_z121 : zT Try.prog 121 = some [.int .u64 0] := by kernel_rfl
@[simp] theorem T_sz122 : szT Try.prog 122 = 1 := by kernel_rfl
@[simp] theorem T_ag122 : aggT Try.prog 122 = some false := by kernel_rfl
@[simp] theorem T_el122 : elT Try.prog 122 = none := by kernel_rfl
@[simp] theorem T_ar122 : arrT Try.prog 122 = none := by kernel_rfl
@[simp] theorem T_in122 : intT Try.prog 122 = some .u32 := by kernel_rfl
@[simp] theorem T_bo122 : boolT Try.prog 122 = false := by kernel_rfl
@[simp] theorem T_bt122 : byteT Try.prog 122 = false := by kernel_rfl
@[simp] theorem T_by122 : byT Try.prog 122 = 4 := by kernel_rfl
@[simp] theorem T_z122 : zT Try.prog 122 = some [.int .u32 0] := by kernel_rfl
@[simp] theorem T_sz124 : szT Try.prog 124 = 1 := by kernel_rfl
@[simp] theorem T_ag124 : aggT Try.prog 124 = some false := by kernel_rfl
@[simp] theorem T_sz125 : szT Try.prog 125 = 1 := by kernel_rfl
@[simp] theorem T_ag125 : aggT Try.prog 125 = some false := by kernel_rfl
@[simp] theorem T_sz126 : szT Try.prog 126 = 4 := by kernel_rfl
@[simp] theorem T_ag126 : aggT Try.prog 126 = some true := by kernel_rfl
@[simp] theorem T_el126 : elT Try.prog 126 = none := by kernel_rfl
@[simp] theorem T_ar126 : arrT Try.prog 126 = none := by kernel_rfl
@[simp] theorem T_by126 : byT Try.prog 126 = 40 := by kernel_rfl
@[simp] theorem T_f126_0 : fldT Try.prog 126 0 = some (0, 17) := by kernel_rfl
@[simp] theorem T_f126_1 : fldT Try.prog 126 1 = some (1, 17) := by kernel_rfl
@[simp] theorem T_f126_2 : fldT Try.prog 126 2 = some (2, 17) := by kernel_rfl
@[simp] theorem T_f126_3 : fldT Try.prog 126 3 = some (3, 9) := by kernel_rfl
@[simp] theorem T_if126 : infoAll Try.prog 126 = true := by kernel_rfl
@[simp] theorem T_z126 : zT Try.prog 126 = some [.nilptr, .nilptr, .nilptr, .str ByteArray.empty] := by kernel_rfl
@[simp] theorem T_sz127 : szT Try.prog 127 = 4 := by kernel_rfl
@[simp] theorem T_ag127 : aggT Try.prog 127 = some true := by kernel_rfl
@[simp] theorem T_el127 : elT Try.prog 127 = none := by kernel_rfl
@[simp] theorem T_ar127 : arrT Try.prog 127 = none := by kernel_rfl
@[simp] theorem T_by127 : byT Try.prog 127 = 40 := by kernel_rfl
@[simp] theorem T_f127_0 : fldT Try.prog 127 0 = some (0, 17) := by kernel_rfl
@[simp] theorem T_f127_1 : fldT Try.prog 127 1 = some (1, 17) := by kernel_rfl
@[simp] theorem T_f127_2 : fldT Try.prog 127 2 = some (2, 17) := by kernel_rfl
@[simp] theorem T_f127_3 : fldT Try.prog 127 3 = some (3, 9) := by kernel_rfl
@[simp] theorem T_if127 : infoAll Try.prog 127 = true := by kernel_rfl
@[simp] theorem T_z127 : zT Try.prog 127 = some [.nilptr, .nilptr, .nilptr, .str ByteArray.empty] := by kernel_rfl
@[simp] theorem T_sz128 : szT Try.prog 128 = 0 := by kernel_rfl
@[simp] theorem T_ag128 : aggT Try.prog 128 = some true := by kernel_rfl
@[simp] theorem T_el128 : elT Try.prog 128 = none := by kernel_rfl
@[simp] theorem T_ar128 : arrT Try.prog 128 = some (0, 16) := by kernel_rfl
@[simp] theorem T_st128 : strT Try.prog 128 = false := by kernel_rfl
@[simp] theorem T_by128 : byT Try.prog 128 = 0 := by kernel_rfl
@[simp] theorem T_sz129 : szT Try.prog 129 = 0 := by kernel_rfl
@[simp] theorem T_ag129 : aggT Try.prog 129 = some true := by kernel_rfl
@[simp] theorem T_el129 : elT Try.prog 129 = none := by kernel_rfl
@[simp] theorem T_ar129 : arrT Try.prog 129 = none := by kernel_rfl
@[simp] theorem T_by129 : byT Try.prog 129 = 0 := by kernel_rfl
@[simp] theorem T_f129_0 : fldT Try.prog 129 0 = some (0, 128) := by kernel_rfl
@[simp] theorem T_if129 : infoAll Try.prog 129 = true := by kernel_rfl
@[simp] theorem T_sz130 : szT Try.prog 130 = 0 := by kernel_rfl
@[simp] theorem T_ag130 : aggT Try.prog 130 = some true := by kernel_rfl
@[simp] theorem T_el130 : elT Try.prog 130 = none := by kernel_rfl
@[simp] theorem T_ar130 : arrT Try.prog 130 = none := by kernel_rfl
@[simp] theorem T_by130 : byT Try.prog 130 = 0 := by kernel_rfl
@[simp] theorem T_f130_0 : fldT Try.prog 130 0 = some (0, 128) := by kernel_rfl
@[simp] theorem T_if130 : infoAll Try.prog 130 = true := by kernel_rfl
@[simp] theorem T_sz131 : szT Try.prog 131 = 1 := by kernel_rfl
@[simp] theorem T_ag131 : aggT Try.prog 131 = some false := by kernel_rfl
@[simp] theorem T_sz132 : szT Try.prog 132 = 1 := by kernel_rfl
@[simp] theorem T_ag132 : aggT Try.prog 132 = some false := by kernel_rfl
@[simp] theorem T_el132 : elT Try.prog 132 = none := by kernel_rfl
@[simp] theorem T_ar132 : arrT Try.prog 132 = none := by kernel_rfl
@[simp] theorem T_in132 : intT Try.prog 132 = some .u8 := by kernel_rfl
@[simp] theorem T_bo132 : boolT Try.prog 132 = false := by kernel_rfl
@[simp] theorem T_bt132 : byteT Try.prog 132 = true := by kernel_rfl
@[simp] theorem T_by132 : byT Try.prog 132 = 1 := by kernel_rfl
@[simp] theorem T_z132 : zT Try.prog 132 = some [.int .u8 0] := by kernel_rfl
@[simp] theorem T_sz133 : szT Try.prog 133 = 1 := by kernel_rfl
@[simp] theorem T_ag133 : aggT Try.prog 133 = some false := by kernel_rfl
@[simp] theorem T_el133 : elT Try.prog 133 = none := by kernel_rfl
@[simp] theorem T_ar133 : arrT Try.prog 133 = none := by kernel_rfl
@[simp] theorem T_in133 : intT Try.prog 133 = some .u8 := by kernel_rfl
@[simp] theorem T_bo133 : boolT Try.prog 133 = false := by kernel_rfl
@[simp] theorem T_bt133 : byteT Try.prog 133 = true := by kernel_rfl
@[simp] theorem T_by133 : byT Try.prog 133 = 1 := by kernel_rfl
@[simp] theorem T_z133 : zT Try.prog 133 = some [.int .u8 0] := by kernel_rfl
@[simp] theorem T_sz134 : szT Try.prog 134 = 1 := by kernel_rfl
@[simp] theorem T_ag134 : aggT Try.prog 134 = some false := by kernel_rfl
@[simp] theorem T_sz135 : szT Try.prog 135 = 1 := by kernel_rfl
@[simp] theorem T_ag135 : aggT Try.prog 135 = some false := by kernel_rfl
@[simp] theorem T_el135 : elT Try.prog 135 = none := by kernel_rfl
@[simp] theorem T_ar135 : arrT Try.prog 135 = none := by kernel_rfl
@[simp] theorem T_st135 : strT Try.prog 135 = false := by kernel_rfl
@[simp] theorem T_pt135 : ptrT Try.prog 135 = true := by kernel_rfl
@[simp] theorem T_by135 : byT Try.prog 135 = 8 := by kernel_rfl
@[simp] theorem T_z135 : zT Try.prog 135 = some [.nilptr] := by kernel_rfl
@[simp] theorem T_sz136 : szT Try.prog 136 = 1 := by kernel_rfl
@[simp] theorem T_ag136 : aggT Try.prog 136 = some false := by kernel_rfl
@[simp] theorem T_el136 : elT Try.prog 136 = none := by kernel_rfl
@[simp] theorem T_ar136 : arrT Try.prog 136 = none := by kernel_rfl
@[simp] theorem T_in136 : intT Try.prog 136 = some .i32 := by kernel_rfl
@[simp] theorem T_bo136 : boolT Try.prog 136 = false := by kernel_rfl
@[simp] theorem T_bt136 : byteT Try.prog 136 = false := by kernel_rfl
@[simp] theorem T_by136 : byT Try.prog 136 = 4 := by kernel_rfl
@[simp] theorem T_z136 : zT Try.prog 136 = some [.int .i32 0] := by kernel_rfl
@[simp] theorem T_sz137 : szT Try.prog 137 = 1 := by kernel_rfl
@[simp] theorem T_ag137 : aggT Try.prog 137 = some false := by kernel_rfl
@[simp] theorem T_el137 : elT Try.prog 137 = none := by kernel_rfl
@[simp] theorem T_ar137 : arrT Try.prog 137 = none := by kernel_rfl
@[simp] theorem T_in137 : intT Try.prog 137 = some .i32 := by kernel_rfl
@[simp] theorem T_bo137 : boolT Try.prog 137 = false := by kernel_rfl
@[simp] theorem T_bt137 : byteT Try.prog 137 = false := by kernel_rfl
@[simp] theorem T_by137 : byT Try.prog 137 = 4 := by kernel_rfl
@[simp] theorem T_z137 : zT Try.prog 137 = some [.int .i32 0] := by kernel_rfl
@[simp] theorem T_sz138 : szT Try.prog 138 = 11 := by kernel_rfl
@[simp] theorem T_ag138 : aggT Try.prog 138 = some true := by kernel_rfl
@[simp] theorem T_el138 : elT Try.prog 138 = none := by kernel_rfl
@[simp] theorem T_ar138 : arrT Try.prog 138 = none := by kernel_rfl
@[simp] theorem T_by138 : byT Try.prog 138 = 48 := by kernel_rfl
@[simp] theorem T_f138_0 : fldT Try.prog 138 0 = some (0, 12) := by kernel_rfl
@[simp] theorem T_f138_1 : fldT Try.prog 138 1 = some (1, 12) := by kernel_rfl
@[simp] theorem T_f138_2 : fldT Try.prog 138 2 = some (2, 122) := by kernel_rfl
@[simp] theorem T_f138_3 : fldT Try.prog 138 3 = some (3, 132) := by kernel_rfl
@[simp] theorem T_f138_4 : fldT Try.prog 138 4 = some (4, 5) := by kernel_rfl
@[simp] theorem T_f138_5 : fldT Try.prog 138 5 = some (5, 5) := by kernel_rfl
@[simp] theorem T_f138_6 : fldT Try.prog 138 6 = some (6, 133) := by kernel_rfl
@[simp] theorem T_f138_7 : fldT Try.prog 138 7 = some (7, 134) := by kernel_rfl
@[simp] theorem T_f138_8 : fldT Try.prog 138 8 = some (8, 135) := by kernel_rfl
@[simp] theorem T_f138_9 : fldT Try.prog 138 9 = some (9, 136) := by kernel_rfl
@[simp] theorem T_f138_10 : fldT Try.prog 138 10 = some (10, 137) := by kernel_rfl
@[simp] theorem T_if138 : infoAll Try.prog 138 = true := by kernel_rfl
@[simp] theorem T_sz139 : szT Try.prog 139 = 11 := by kernel_rfl
@[simp] theorem T_ag139 : aggT Try.prog 139 = some true := by kernel_rfl
@[simp] theorem T_el139 : elT Try.prog 139 = none := by kernel_rfl
@[simp] theorem T_ar139 : arrT Try.prog 139 = none := by kernel_rfl
@[simp] theorem T_by139 : byT Try.prog 139 = 48 := by kernel_rfl
@[simp] theorem T_f139_0 : fldT Try.prog 139 0 = some (0, 12) := by kernel_rfl
@[simp] theorem T_f139_1 : fldT Try.prog 139 1 = some (1, 12) := by kernel_rfl
@[simp] theorem T_f139_2 : fldT Try.prog 139 2 = some (2, 122) := by kernel_rfl
@[simp] theorem T_f139_3 : fldT Try.prog 139 3 = some (3, 132) := by kernel_rfl
@[simp] theorem T_f139_4 : fldT Try.prog 139 4 = some (4, 5) := by kernel_rfl
@[simp] theorem T_f139_5 : fldT Try.prog 139 5 = some (5, 5) := by kernel_rfl
@[simp] theorem T_f139_6 : fldT Try.prog 139 6 = some (6, 133) := by kernel_rfl
@[simp] theorem T_f139_7 : fldT Try.prog 139 7 = some (7, 134) := by kernel_rfl
@[simp] theorem T_f139_8 : fldT Try.prog 139 8 = some (8, 135) := by kernel_rfl
@[simp] theorem T_f139_9 : fldT Try.prog 139 9 = some (9, 136) := by kernel_rfl
@[simp] theorem T_f139_10 : fldT Try.prog 139 10 = some (10, 137) := by kernel_rfl
@[simp] theorem T_if139 : infoAll Try.prog 139 = true := by kernel_rfl

theorem mixed : Try.prog.follows .mixedOrders = true := by kernel_rfl

end Go.Proofs.Ythcfnaglgoaikaa
