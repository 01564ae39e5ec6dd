/- The functions beside lives, made ready: printed by a program, and held against the program's code. No condition. -/
import Derived.Test.YtphkjlkgfcjbmaaGreatDoorLivE
set_option linter.all false
set_option linter.unusedVariables false
open Go Go.Ev Go.Proofs
namespace T
set_option maxRecDepth 100000
/-- The two parts of a loop over a function. -/
noncomputable def rfIn : Code → Option (Code × Code)
  | .seq a b => match rfIn a with | some p => some p | none => rfIn b
  | .cond _ a b => match rfIn a with | some p => some p | none => rfIn b
  | .block _ c => rfIn c
  | .loop c => rfIn c
  | .scope c => rfIn c
  | .rangeFunc _ _ a b => some (a, b)
  | _ => none
noncomputable def rfOf (c : Option Code) : Code × Code := match c with | some c => (match rfIn c with | some p => p | none => (.skip, .skip)) | none => (.skip, .skip)
/-- besom/besomlaw28.TraceBack -/
noncomputable def G4_0 : PC :=
  (.reg [⟨.move (.const (.bool false)), (.frm 4), none⟩])
noncomputable def G4_1 : PC :=
  (.reg [⟨.call (.const (.func (.func 11) #[] #[])) [], (.loc 13), none⟩,
    ⟨.un (unE .not) (.loc 13), (.frm 14), none⟩])
noncomputable def G4_2 : PC :=
  (.reg [⟨.move (.const (.bool false)), (.frm 4), none⟩])
noncomputable def G4_3 : PC :=
  (.reg [⟨.move (.frm 0), (.loc 16), none⟩,
    ⟨.call (.const (.func (.func 5) #[] #[])) [(.loc 16)], (.loc 17), none⟩,
    ⟨.move (.loc 17), (.loc 15), none⟩,
    ⟨.extract (.loc 15) 0, (.loc 18), none⟩,
    ⟨.extract (.loc 15) 1, (.loc 19), none⟩,
    ⟨.move (.loc 18), (.frm 5), none⟩,
    ⟨.move (.loc 19), (.frm 6), none⟩])
noncomputable def G4_4 : PC :=
  (.reg [⟨.move (.frm 6), (.loc 20), none⟩,
    ⟨.bin (eqlOp E .int) (.loc 20) (.const (.int .i64 (.ofNat 0))), (.frm 21), none⟩])
noncomputable def G4_5 : PC :=
  (.reg [⟨.move (.frm 5), (.loc 23), none⟩,
      ⟨.call (.const (.func (.func 7) #[] #[])) [(.loc 23)], (.loc 24), none⟩,
      ⟨.move (.loc 24), (.loc 22), none⟩,
      ⟨.extract (.loc 22) 0, (.loc 25), none⟩,
      ⟨.extract (.loc 22) 1, (.loc 26), none⟩,
      ⟨.move (.loc 25), (.frm 7), none⟩,
      ⟨.move (.loc 26), (.frm 8), none⟩])
noncomputable def G4_6 : PC :=
  (.reg [⟨.move (.frm 8), (.loc 27), none⟩,
      ⟨.bin (neqOp E .int) (.loc 27) (.const (.int .i64 (.ofNat 0))), (.loc 28), none⟩,
      ⟨.move (.loc 28), (.loc 29), none⟩,
      ⟨.move (.frm 0), (.loc 30), (some ((.loc 29), false))⟩,
      ⟨.move (.frm 7), (.loc 31), (some ((.loc 29), false))⟩,
      ⟨.call (.const (.func (.func 12) #[] #[])) [(.loc 30), (.loc 31)], (.loc 32), (some ((.loc 29), false))⟩,
      ⟨.un (unE .not) (.loc 32), (.loc 33), (some ((.loc 29), false))⟩,
      ⟨.pick (.loc 29) (.const (.bool true)) (.loc 33), (.loc 34), none⟩,
      ⟨.move (.loc 34), (.loc 35), none⟩,
      ⟨.move (.frm 5), (.loc 36), (some ((.loc 35), false))⟩,
      ⟨.lenStr (.loc 36), (.loc 37), (some ((.loc 35), false))⟩,
      ⟨.move (.frm 0), (.loc 38), (some ((.loc 35), false))⟩,
      ⟨.len (.loc 38), (.loc 39), (some ((.loc 35), false))⟩,
      ⟨.bin (intOp iMul) (.const (.int .i64 (.ofNat 13))) (.loc 39), (.loc 40), (some ((.loc 35), false))⟩,
      ⟨.bin (neqOp E .int) (.loc 37) (.loc 40), (.loc 41), (some ((.loc 35), false))⟩,
      ⟨.pick (.loc 35) (.const (.bool true)) (.loc 41), (.frm 42), none⟩])
noncomputable def G4_7 : PC :=
  (.reg [⟨.move (.const (.bool false)), (.frm 4), none⟩])
noncomputable def G4_8 : PC :=
  (.reg [⟨.move (.frm 1), (.loc 44), none⟩,
    ⟨.call (.const (.func (.func 7) #[] #[])) [(.loc 44)], (.loc 45), none⟩,
    ⟨.move (.loc 45), (.loc 43), none⟩,
    ⟨.extract (.loc 43) 0, (.loc 46), none⟩,
    ⟨.extract (.loc 43) 1, (.loc 47), none⟩,
    ⟨.move (.loc 46), (.frm 9), none⟩,
    ⟨.move (.loc 47), (.frm 10), none⟩])
noncomputable def G4_9 : PC :=
  (.reg [⟨.move (.frm 9), (.loc 49), none⟩,
    ⟨.call (.const (.func (.func 5) #[] #[])) [(.loc 49)], (.loc 50), none⟩,
    ⟨.move (.loc 50), (.loc 48), none⟩,
    ⟨.extract (.loc 48) 0, (.loc 51), none⟩,
    ⟨.extract (.loc 48) 1, (.loc 52), none⟩,
    ⟨.move (.loc 51), (.frm 11), none⟩,
    ⟨.move (.loc 52), (.frm 12), none⟩])
noncomputable def G4_10 : PC :=
  (.reg [⟨.move (.frm 10), (.loc 53), none⟩,
    ⟨.bin (neqOp E .int) (.loc 53) (.const (.int .i64 (.ofNat 0))), (.loc 54), none⟩,
    ⟨.move (.loc 54), (.loc 55), none⟩,
    ⟨.move (.frm 9), (.loc 56), (some ((.loc 55), true))⟩,
    ⟨.len (.loc 56), (.loc 57), (some ((.loc 55), true))⟩,
    ⟨.bin (eqlOp E .int) (.loc 57) (.const (.int .i64 (.ofNat 0))), (.loc 58), (some ((.loc 55), true))⟩,
    ⟨.pick (.loc 55) (.loc 58) (.const (.bool false)), (.loc 59), none⟩,
    ⟨.move (.loc 59), (.loc 60), none⟩,
    ⟨.move (.frm 10), (.loc 61), (some ((.loc 60), false))⟩,
    ⟨.bin (eqlOp E .int) (.loc 61) (.const (.int .i64 (.ofNat 0))), (.loc 62), (some ((.loc 60), false))⟩,
    ⟨.move (.loc 62), (.loc 63), (some ((.loc 60), false))⟩,
    ⟨.move (.frm 12), (.loc 64), (some ((.loc 63), true))⟩,
    ⟨.bin (eqlOp E .int) (.loc 64) (.const (.int .i64 (.ofNat 0))), (.loc 65), (some ((.loc 63), true))⟩,
    ⟨.pick (.loc 63) (.loc 65) (.const (.bool false)), (.loc 66), (some ((.loc 60), false))⟩,
    ⟨.move (.loc 66), (.loc 67), (some ((.loc 60), false))⟩,
    ⟨.move (.frm 11), (.loc 68), (some ((.loc 67), true))⟩,
    ⟨.move (.frm 1), (.loc 69), (some ((.loc 67), true))⟩,
    ⟨.bin (eqlOp E .str) (.loc 68) (.loc 69), (.loc 70), (some ((.loc 67), true))⟩,
    ⟨.pick (.loc 67) (.loc 70) (.const (.bool false)), (.loc 71), (some ((.loc 60), false))⟩,
    ⟨.pick (.loc 60) (.const (.bool true)) (.loc 71), (.loc 72), none⟩,
    ⟨.move (.loc 72), (.frm 4), none⟩])
noncomputable def P4 : PC :=
  (.seq G4_0
  (.seq (.seq G4_1
  (.cond (.frm 14)
    (.seq G4_2
    .ret)
    .skip))
  (.seq G4_3
  (.seq (.seq G4_4
  (.cond (.frm 21)
    (.seq G4_5
    (.seq G4_6
    (.cond (.frm 42)
      (.seq G4_7
      .ret)
      .skip)))
    .skip))
  (.seq G4_8
  (.seq G4_9
  (.seq G4_10
  .ret)))))))
def M4 : MN := ⟨9444732961341241794572, 73, 1⟩
noncomputable def R4 : List RV := [.tmp (.frm 4)]
theorem pfn4 : pfn E 4 = some ⟨M4, P4, R4⟩ := by kernel_rfl
/-- besom/trace.Encode -/
noncomputable def G5_0 : PC :=
  (.reg [⟨.move (.const (.string ⟨⟨[]⟩⟩)), (.frm 2), none⟩,
    ⟨.move (.const (.int .i64 (.ofNat 0))), (.frm 3), none⟩])
noncomputable def G5_1 : PC :=
  (.reg [⟨.move (.frm 0), (.loc 8), none⟩,
    ⟨.len (.loc 8), (.loc 9), none⟩,
    ⟨.bin (intOp iGtr) (.loc 9) (.const (.int .i64 (.ofNat 4096))), (.frm 10), none⟩])
noncomputable def G5_2 : PC :=
  (.reg [⟨.move (.const (.string ⟨⟨[]⟩⟩)), (.frm 2), none⟩,
      ⟨.move (.const (.int .i64 (.ofNat 2))), (.frm 3), none⟩])
noncomputable def G5_3 : PC :=
  (.reg [⟨.move (.frm 0), (.loc 11), none⟩,
    ⟨.len (.loc 11), (.loc 12), none⟩,
    ⟨.bin (intOp iMul) (.const (.int .i64 (.ofNat 13))) (.loc 12), (.loc 13), none⟩,
    ⟨.makeSlice (some ⟨5, 1, 1, [.int .u8 (.ofNat 0)]⟩) (.const (.int .i64 (.ofNat 0))) (.loc 13), (.loc 14), none⟩,
    ⟨.move (.loc 14), (.frm 4), none⟩])
noncomputable def G5_4 : PC :=
  (.reg [⟨.move (.frm 0), (.frm 15), none⟩,
    ⟨.len (.frm 15), (.frm 16), none⟩,
    ⟨.move (.const (.int .i64 (.ofNat 0))), (.frm 17), none⟩])
noncomputable def G5_5 : PC :=
  (.reg [⟨.bin (intOp iLss) (.frm 17) (.frm 16), (.frm 18), none⟩])
noncomputable def G5_6 : PC :=
  (.reg [⟨.indexSl (some ⟨42, 7, 56, [.bool false, .int .i64 (.ofNat 0), .int .u8 (.ofNat 0), .int .i64 (.ofNat 0), .int .i64 (.ofNat 0), .int .i64 (.ofNat 0), .int .u64 (.ofNat 0)]⟩) (.frm 15) (.frm 17), (.loc 19), none⟩,
    ⟨.load (some (some 7)) (.loc 19), (.loc 20), none⟩,
    ⟨.alloc 42 (some [.bool false, .int .i64 (.ofNat 0), .int .u8 (.ofNat 0), .int .i64 (.ofNat 0), .int .i64 (.ofNat 0), .int .i64 (.ofNat 0), .int .u64 (.ofNat 0)]), (.frm 6), none⟩,
    ⟨.store (some 7) (.frm 6) (.loc 20), .non, none⟩])
noncomputable def G5_7 : PC :=
  (.reg [⟨.fieldAddr (some (0, (some (some 5)), 5)) (.frm 6), (.loc 21), none⟩,
    ⟨.load (some (some 5)) (.loc 21), (.loc 22), none⟩,
    ⟨.alloc 39 (some [.bool false, .int .i64 (.ofNat 0), .int .u8 (.ofNat 0), .int .i64 (.ofNat 0), .int .i64 (.ofNat 0)]), (.frm 7), none⟩,
    ⟨.store (some 5) (.frm 7) (.loc 22), .non, none⟩])
noncomputable def G5_8 : PC :=
  (.reg [⟨.fieldAddr (some (4, (some none), 1)) (.frm 7), (.loc 23), none⟩,
    ⟨.load (some none) (.loc 23), (.loc 24), none⟩,
    ⟨.bin (neqOp E .int) (.loc 24) (.const (.int .i64 (.ofNat 1))), (.loc 25), none⟩,
    ⟨.move (.loc 25), (.loc 26), none⟩,
    ⟨.fieldAddr (some (1, (some none), 1)) (.frm 7), (.loc 27), (some ((.loc 26), false))⟩,
    ⟨.load (some none) (.loc 27), (.loc 28), (some ((.loc 26), false))⟩,
    ⟨.fieldAddr (some (2, (some (some 2)), 2)) (.frm 7), (.loc 29), (some ((.loc 26), false))⟩,
    ⟨.fieldAddr (some (1, (some none), 1)) (.loc 29), (.loc 30), (some ((.loc 26), false))⟩,
    ⟨.load (some none) (.loc 30), (.loc 31), (some ((.loc 26), false))⟩,
    ⟨.fieldAddr (some (5, (some none), 1)) (.frm 6), (.loc 32), (some ((.loc 26), false))⟩,
    ⟨.load (some none) (.loc 32), (.loc 33), (some ((.loc 26), false))⟩,
    ⟨.buildSlice (some ⟨3, 1, 8, [.int .i64 (.ofNat 0)]⟩) 3 [0, 1, 2] [(.loc 28), (.loc 31), (.loc 33)], (.loc 34), (some ((.loc 26), false))⟩,
    ⟨.call (.const (.func (.func 13) #[] #[])) [(.loc 34)], (.loc 35), (some ((.loc 26), false))⟩,
    ⟨.un (unE .not) (.loc 35), (.loc 36), (some ((.loc 26), false))⟩,
    ⟨.pick (.loc 26) (.const (.bool true)) (.loc 36), (.frm 37), none⟩])
noncomputable def G5_9 : PC :=
  (.reg [⟨.move (.const (.string ⟨⟨[]⟩⟩)), (.frm 2), none⟩,
      ⟨.move (.const (.int .i64 (.ofNat 2))), (.frm 3), none⟩])
noncomputable def G5_10 : PC :=
  (.draw (some [⟨⟨.move (.frm 4), (.loc 38), none⟩, 0, 0, 0⟩,
    ⟨⟨.fieldAddr (some (0, (some none), 1)) (.frm 7), (.loc 39), none⟩, 0, 1, 0⟩,
    ⟨⟨.load (some none) (.loc 39), (.loc 40), none⟩, 1, 2, 2⟩,
    ⟨⟨.call (.const (.func (.func 14) #[] #[])) [(.loc 40)], (.loc 41), none⟩, 3, 3, 6⟩,
    ⟨⟨.conv (.int .u8) (.loc 41), (.loc 42), none⟩, 1, 4, 14⟩,
    ⟨⟨.fieldAddr (some (1, (some none), 1)) (.frm 7), (.loc 43), none⟩, 0, 5, 0⟩,
    ⟨⟨.load (some none) (.loc 43), (.loc 44), none⟩, 1, 6, 32⟩,
    ⟨⟨.conv (.int .u8) (.loc 44), (.loc 45), none⟩, 1, 7, 96⟩,
    ⟨⟨.fieldAddr (some (2, (some (some 2)), 2)) (.frm 7), (.loc 46), none⟩, 0, 8, 0⟩,
    ⟨⟨.fieldAddr (some (0, (some none), 1)) (.loc 46), (.loc 47), none⟩, 0, 9, 256⟩,
    ⟨⟨.load (some none) (.loc 47), (.loc 48), none⟩, 1, 10, 768⟩,
    ⟨⟨.fieldAddr (some (2, (some (some 2)), 2)) (.frm 7), (.loc 49), none⟩, 0, 11, 0⟩,
    ⟨⟨.fieldAddr (some (1, (some none), 1)) (.loc 49), (.loc 50), none⟩, 0, 12, 2048⟩,
    ⟨⟨.load (some none) (.loc 50), (.loc 51), none⟩, 1, 13, 6144⟩,
    ⟨⟨.conv (.int .u8) (.loc 51), (.loc 52), none⟩, 1, 14, 14336⟩,
    ⟨⟨.fieldAddr (some (5, (some none), 1)) (.frm 6), (.loc 53), none⟩, 0, 15, 0⟩,
    ⟨⟨.load (some none) (.loc 53), (.loc 54), none⟩, 1, 16, 32768⟩,
    ⟨⟨.conv (.int .u8) (.loc 54), (.loc 55), none⟩, 1, 17, 98304⟩,
    ⟨⟨.buildSlice (some ⟨5, 1, 1, [.int .u8 (.ofNat 0)]⟩) 5 [0, 1, 2, 3, 4] [(.loc 42), (.loc 45), (.loc 48), (.loc 52), (.loc 55)], (.loc 56), none⟩, 2, 18, 262142⟩,
    ⟨⟨.append (some ⟨5, 1, 1, [.int .u8 (.ofNat 0)]⟩) (.loc 38) (.loc 56), (.loc 57), none⟩, 3, 19, 524287⟩,
    ⟨⟨.move (.loc 57), (.frm 4), none⟩, 0, 20, 1048575⟩]))
noncomputable def G5_11 : PC :=
  (.reg [⟨.move (.frm 4), (.loc 58), none⟩,
    ⟨.fieldAddr (some (6, (some none), 1)) (.frm 6), (.loc 59), none⟩,
    ⟨.load (some none) (.loc 59), (.loc 60), none⟩,
    ⟨.call (.const (.func (.func 16) #[] #[])) [(.loc 60)], (.loc 61), none⟩,
    ⟨.call (.const (.func (.func 15) #[] #[])) [(.loc 58), (.loc 61)], (.loc 62), none⟩,
    ⟨.move (.loc 62), (.frm 4), none⟩])
noncomputable def G5_12 : PC :=
  (.reg [⟨.bin (intOp iAdd) (.frm 17) (.const (.int .i64 (.ofNat 1))), (.loc 63), none⟩,
    ⟨.move (.loc 63), (.frm 17), none⟩])
noncomputable def L5_0 : PC :=
  (.seq G5_5
  (.seq (.cond (.frm 18)
    .skip
    (.exit 0))
  (.seq (.block 1 (.seq G5_6
  (.seq G5_7
  (.seq (.seq G5_8
  (.cond (.frm 37)
    (.seq G5_9
    .ret)
    .skip))
  (.seq G5_10
  G5_11)))))
  G5_12)))
noncomputable def G5_13 : PC :=
  (.reg [⟨.move (.frm 4), (.loc 64), none⟩,
    ⟨.conv .bytes (.loc 64), (.loc 65), none⟩,
    ⟨.move (.loc 65), (.frm 2), none⟩,
    ⟨.move (.const (.int .i64 (.ofNat 0))), (.frm 3), none⟩])
noncomputable def P5 : PC :=
  (.seq G5_0
  (.seq (.seq G5_1
  (.cond (.frm 10)
    (.seq G5_2
    .ret)
    .skip))
  (.seq G5_3
  (.seq (.seq G5_4
  (.block 0 (.loop L5_0)))
  (.seq G5_13
  .ret)))))
def M5 : MN := ⟨73786976157398760226, 66, 1⟩
noncomputable def R5 : List RV := [.tmp (.frm 2), .tmp (.frm 3)]
theorem pfn5 : pfn E 5 = some ⟨M5, P5, R5⟩ := by kernel_rfl
/-- besom/trace.Decode -/
noncomputable def G7_0 : PC :=
  (.reg [⟨.move (.const (.slice none 0 0)), (.frm 2), none⟩,
    ⟨.move (.const (.int .i64 (.ofNat 0))), (.frm 3), none⟩])
noncomputable def G7_1 : PC :=
  (.reg [⟨.move (.frm 0), (.loc 5), none⟩,
    ⟨.lenStr (.loc 5), (.loc 6), none⟩,
    ⟨.bin (intOp iRem) (.loc 6) (.const (.int .i64 (.ofNat 13))), (.loc 7), none⟩,
    ⟨.bin (neqOp E .int) (.loc 7) (.const (.int .i64 (.ofNat 0))), (.loc 8), none⟩,
    ⟨.move (.loc 8), (.loc 9), none⟩,
    ⟨.move (.frm 0), (.loc 10), (some ((.loc 9), false))⟩,
    ⟨.lenStr (.loc 10), (.loc 11), (some ((.loc 9), false))⟩,
    ⟨.bin (intOp iQuo) (.loc 11) (.const (.int .i64 (.ofNat 13))), (.loc 12), (some ((.loc 9), false))⟩,
    ⟨.bin (intOp iGtr) (.loc 12) (.const (.int .i64 (.ofNat 4096))), (.loc 13), (some ((.loc 9), false))⟩,
    ⟨.pick (.loc 9) (.const (.bool true)) (.loc 13), (.frm 14), none⟩])
noncomputable def G7_2 : PC :=
  (.reg [⟨.move (.const (.slice none 0 0)), (.frm 2), none⟩,
      ⟨.move (.const (.int .i64 (.ofNat 2))), (.frm 3), none⟩])
noncomputable def G7_3 : PC :=
  (.reg [⟨.move (.const (.slice none 0 0)), (.frm 4), none⟩])
noncomputable def G7_4 : PC :=
  (.reg [⟨.move (.frm 0), (.loc 15), none⟩,
    ⟨.bin (neqOp E .str) (.loc 15) (.const (.string ⟨⟨[]⟩⟩)), (.frm 16), none⟩])
noncomputable def G7_6 : PC :=
  (.reg [⟨.move (.frm 0), (.loc 19), none⟩,
    ⟨.indexStr (.loc 19) (.const (.int .i64 (.ofNat 0))), (.loc 20), none⟩,
    ⟨.bin (intOp iGtr) (.loc 20) (.const (.int .u8 (.ofNat 1))), (.frm 21), none⟩])
noncomputable def G7_7 : PC :=
  (.reg [⟨.move (.const (.slice none 0 0)), (.frm 2), none⟩,
      ⟨.move (.const (.int .i64 (.ofNat 2))), (.frm 3), none⟩])
noncomputable def G7_8 : PC :=
  (.reg [⟨.move (.frm 4), (.loc 22), none⟩,
    ⟨.move (.frm 0), (.loc 23), none⟩,
    ⟨.strSlice (.loc 23) none (some (.const (.int .i64 (.ofNat 13)))), (.loc 24), none⟩,
    ⟨.call (.const (.func (.func 19) #[] #[])) [(.loc 24)], (.loc 25), none⟩,
    ⟨.buildSlice (some ⟨42, 7, 56, [.bool false, .int .i64 (.ofNat 0), .int .u8 (.ofNat 0), .int .i64 (.ofNat 0), .int .i64 (.ofNat 0), .int .i64 (.ofNat 0), .int .u64 (.ofNat 0)]⟩) 1 [0] [(.loc 25)], (.loc 26), none⟩,
    ⟨.append (some ⟨42, 7, 56, [.bool false, .int .i64 (.ofNat 0), .int .u8 (.ofNat 0), .int .i64 (.ofNat 0), .int .i64 (.ofNat 0), .int .i64 (.ofNat 0), .int .u64 (.ofNat 0)]⟩) (.loc 22) (.loc 26), (.loc 27), none⟩,
    ⟨.move (.loc 27), (.frm 4), none⟩])
noncomputable def G7_5 : PC :=
  (.reg [⟨.move (.frm 0), (.loc 17), none⟩,
    ⟨.strSlice (.loc 17) (some (.const (.int .i64 (.ofNat 13)))) none, (.loc 18), none⟩,
    ⟨.move (.loc 18), (.frm 0), none⟩])
noncomputable def L7_0 : PC :=
  (.seq (.seq G7_4
  (.cond (.frm 16)
    .skip
    (.exit 0)))
  (.seq (.block 1 (.seq (.seq G7_6
  (.cond (.frm 21)
    (.seq G7_7
    .ret)
    .skip))
  G7_8))
  G7_5))
noncomputable def G7_9 : PC :=
  (.reg [⟨.move (.frm 4), (.loc 28), none⟩,
    ⟨.move (.loc 28), (.frm 2), none⟩,
    ⟨.move (.const (.int .i64 (.ofNat 0))), (.frm 3), none⟩])
noncomputable def P7 : PC :=
  (.seq G7_0
  (.seq (.seq G7_1
  (.cond (.frm 14)
    (.seq G7_2
    .ret)
    .skip))
  (.seq G7_3
  (.seq (.block 0 (.loop L7_0))
  (.seq G7_9
  .ret)))))
def M7 : MN := ⟨534691810, 29, 1⟩
noncomputable def R7 : List RV := [.tmp (.frm 2), .tmp (.frm 3)]
theorem pfn7 : pfn E 7 = some ⟨M7, P7, R7⟩ := by kernel_rfl
/-- besom/besomlaw28.same -/
noncomputable def G12_0 : PC :=
  (.reg [⟨.move (.const (.bool false)), (.frm 4), none⟩])
noncomputable def G12_1 : PC :=
  (.reg [⟨.move (.frm 0), (.loc 6), none⟩,
    ⟨.len (.loc 6), (.loc 7), none⟩,
    ⟨.move (.frm 1), (.loc 8), none⟩,
    ⟨.len (.loc 8), (.loc 9), none⟩,
    ⟨.bin (neqOp E .int) (.loc 7) (.loc 9), (.frm 10), none⟩])
noncomputable def G12_2 : PC :=
  (.reg [⟨.move (.const (.bool false)), (.frm 4), none⟩])
noncomputable def G12_3 : PC :=
  (.reg [⟨.move (.frm 0), (.loc 11), none⟩,
    ⟨.len (.loc 11), (.frm 12), none⟩,
    ⟨.move (.const (.int .i64 (.ofNat 0))), (.frm 13), none⟩])
noncomputable def G12_4 : PC :=
  (.reg [⟨.bin (intOp iLss) (.frm 13) (.frm 12), (.frm 14), none⟩])
noncomputable def G12_5 : PC :=
  (.reg [⟨.move (.frm 13), (.loc 15), none⟩,
    ⟨.move (.loc 15), (.frm 5), none⟩])
noncomputable def G12_6 : PC :=
  (.draw (some [⟨⟨.move (.frm 0), (.loc 16), none⟩, 0, 0, 0⟩,
    ⟨⟨.move (.frm 5), (.loc 17), none⟩, 0, 1, 0⟩,
    ⟨⟨.indexSl (some ⟨42, 7, 56, [.bool false, .int .i64 (.ofNat 0), .int .u8 (.ofNat 0), .int .i64 (.ofNat 0), .int .i64 (.ofNat 0), .int .i64 (.ofNat 0), .int .u64 (.ofNat 0)]⟩) (.loc 16) (.loc 17), (.loc 18), none⟩, 0, 2, 3⟩,
    ⟨⟨.load (some (some 7)) (.loc 18), (.loc 19), none⟩, 1, 3, 7⟩,
    ⟨⟨.move (.frm 1), (.loc 20), none⟩, 0, 4, 0⟩,
    ⟨⟨.move (.frm 5), (.loc 21), none⟩, 0, 5, 0⟩,
    ⟨⟨.indexSl (some ⟨42, 7, 56, [.bool false, .int .i64 (.ofNat 0), .int .u8 (.ofNat 0), .int .i64 (.ofNat 0), .int .i64 (.ofNat 0), .int .i64 (.ofNat 0), .int .u64 (.ofNat 0)]⟩) (.loc 20) (.loc 21), (.loc 22), none⟩, 0, 6, 48⟩,
    ⟨⟨.load (some (some 7)) (.loc 22), (.loc 23), none⟩, 1, 7, 112⟩,
    ⟨⟨.bin (neqOp E (.agg 42)) (.loc 19) (.loc 23), (.frm 24), none⟩, 0, 8, 255⟩]))
noncomputable def G12_7 : PC :=
  (.reg [⟨.move (.const (.bool false)), (.frm 4), none⟩])
noncomputable def G12_8 : PC :=
  (.reg [⟨.bin (intOp iAdd) (.frm 13) (.const (.int .i64 (.ofNat 1))), (.loc 25), none⟩,
    ⟨.move (.loc 25), (.frm 13), none⟩])
noncomputable def L12_0 : PC :=
  (.seq G12_4
  (.seq (.cond (.frm 14)
    .skip
    (.exit 0))
  (.seq (.block 1 (.seq G12_5
  (.seq G12_6
  (.cond (.frm 24)
    (.seq G12_7
    .ret)
    .skip))))
  G12_8)))
noncomputable def G12_9 : PC :=
  (.reg [⟨.move (.const (.bool true)), (.frm 4), none⟩])
noncomputable def P12 : PC :=
  (.seq G12_0
  (.seq (.seq G12_1
  (.cond (.frm 10)
    (.seq G12_2
    .ret)
    .skip))
  (.seq (.seq G12_3
  (.block 0 (.loop L12_0)))
  (.seq G12_9
  .ret))))
def M12 : MN := ⟨50301900, 26, 1⟩
noncomputable def R12 : List RV := [.tmp (.frm 4)]
theorem pfn12 : pfn E 12 = some ⟨M12, P12, R12⟩ := by kernel_rfl
/-- besom/trace.small -/
noncomputable def P13 : PC :=
  (.seq (.reg [⟨.move (.const (.bool false)), (.frm 2), none⟩])
  (.seq (.reg [⟨.move (.frm 0), (.loc 3), none⟩,
    ⟨.call (.const (.func (.func 24) #[] #[])) [(.loc 3), (.const (.func (.func 25) #[] #[]))], (.loc 4), none⟩,
    ⟨.un (unE .not) (.loc 4), (.loc 5), none⟩,
    ⟨.move (.loc 5), (.frm 2), none⟩])
  .ret))
def M13 : MN := ⟨58, 6, 1⟩
noncomputable def R13 : List RV := [.tmp (.frm 2)]
theorem pfn13 : pfn E 13 = some ⟨M13, P13, R13⟩ := by kernel_rfl
/-- besom/trace.flag -/
noncomputable def P14 : PC :=
  (.seq (.reg [⟨.move (.const (.int .u64 (.ofNat 0))), (.frm 2), none⟩])
  (.seq (.seq (.reg [⟨.move (.frm 0), (.frm 3), none⟩])
  (.cond (.frm 3)
    (.seq (.reg [⟨.move (.const (.int .u64 (.ofNat 1))), (.frm 2), none⟩])
    .ret)
    .skip))
  (.seq (.reg [⟨.move (.const (.int .u64 (.ofNat 0))), (.frm 2), none⟩])
  .ret)))
def M14 : MN := ⟨2, 4, 1⟩
noncomputable def R14 : List RV := [.tmp (.frm 2)]
theorem pfn14 : pfn E 14 = some ⟨M14, P14, R14⟩ := by kernel_rfl
/-- slices.AppendSeq[[]byte,byte] -/
noncomputable def CA15 : Code := (rfOf Tryz.f15.body).1
noncomputable def CB15 : Code := (rfOf Tryz.f15.body).2
noncomputable def A15_0 : PC :=
  (.reg [⟨.move (.frm 7), (.frm 5), none⟩])
noncomputable def B15_0 : PC :=
  (.block 1 (.reg [⟨.load (some none) (.frm 2), (.loc 8), none⟩,
    ⟨.move (.frm 5), (.loc 9), none⟩,
    ⟨.buildSlice (some ⟨5, 1, 1, [.int .u8 (.ofNat 0)]⟩) 1 [0] [(.loc 9)], (.loc 10), none⟩,
    ⟨.append (some ⟨5, 1, 1, [.int .u8 (.ofNat 0)]⟩) (.loc 8) (.loc 10), (.loc 11), none⟩,
    ⟨.store (some 1) (.frm 2) (.loc 11), .non, none⟩]))
theorem prepA15 : prep E ⟨7944, 13, 1⟩ CA15 = A15_0 := by kernel_rfl
theorem prepB15 : prep E ⟨7944, 13, 1⟩ CB15 = B15_0 := by kernel_rfl
noncomputable def P15 : PC :=
  (.seq (.reg [⟨.box 34 (.frm 0), (.frm 2), none⟩,
    ⟨.move (.const (.slice none 0 0)), (.frm 4), none⟩])
  (.seq (.seq (.reg [⟨.move (.frm 1), (.frm 6), none⟩])
  (.block 0 (.rf (.frm 6) #[7] CA15 CB15)))
  (.seq (.reg [⟨.load (some none) (.frm 2), (.loc 12), none⟩,
    ⟨.move (.loc 12), (.frm 4), none⟩])
  .ret)))
def M15 : MN := ⟨7944, 13, 1⟩
noncomputable def R15 : List RV := [.tmp (.frm 4)]
theorem pfn15 : pfn E 15 = some ⟨M15, P15, R15⟩ := by kernel_rfl
/-- besom/trace.bytesOf -/
noncomputable def P16 : PC :=
  (.seq (.reg [⟨.box 40 (.frm 0), (.frm 1), none⟩,
    ⟨.move (.const (.nilFunc)), (.frm 2), none⟩])
  (.seq (.reg [⟨.func (.func 26) [] [(.frm 1)], (.loc 3), none⟩,
    ⟨.move (.loc 3), (.frm 2), none⟩])
  .ret))
def M16 : MN := ⟨8, 4, 1⟩
noncomputable def R16 : List RV := [.tmp (.frm 2)]
theorem pfn16 : pfn E 16 = some ⟨M16, P16, R16⟩ := by kernel_rfl
/-- besom/trace.note -/
noncomputable def G19_0 : PC :=
  (.reg [⟨.alloc 42 (some [.bool false, .int .i64 (.ofNat 0), .int .u8 (.ofNat 0), .int .i64 (.ofNat 0), .int .i64 (.ofNat 0), .int .i64 (.ofNat 0), .int .u64 (.ofNat 0)]), (.frm 2), none⟩])
noncomputable def G19_1 : PC :=
  (.draw (some [⟨⟨.move (.frm 0), (.loc 6), none⟩, 0, 0, 0⟩,
    ⟨⟨.indexStr (.loc 6) (.const (.int .i64 (.ofNat 2))), (.loc 7), none⟩, 0, 1, 1⟩,
    ⟨⟨.move (.frm 0), (.loc 8), none⟩, 0, 2, 0⟩,
    ⟨⟨.indexStr (.loc 8) (.const (.int .i64 (.ofNat 3))), (.loc 9), none⟩, 0, 3, 4⟩,
    ⟨⟨.conv (.int .i64) (.loc 9), (.loc 10), none⟩, 1, 4, 12⟩,
    ⟨⟨.build (some (fun i => nth [(0, 1), (1, 1)] i)) (some [.int .u8 (.ofNat 0), .int .i64 (.ofNat 0)]) [0, 1] [(.loc 7), (.loc 10)], (.loc 11), none⟩, 0, 5, 31⟩,
    ⟨⟨.alloc 37 (some [.int .u8 (.ofNat 0), .int .i64 (.ofNat 0)]), (.frm 3), none⟩, 2, 6, 0⟩,
    ⟨⟨.store (some 2) (.frm 3) (.loc 11), .non, none⟩, 3, 7, 127⟩]))
noncomputable def G19_2 : PC :=
  (.draw (some [⟨⟨.move (.frm 0), (.loc 12), none⟩, 0, 0, 0⟩,
    ⟨⟨.indexStr (.loc 12) (.const (.int .i64 (.ofNat 0))), (.loc 13), none⟩, 0, 1, 1⟩,
    ⟨⟨.bin (eqlOp E .int) (.loc 13) (.const (.int .u8 (.ofNat 1))), (.loc 14), none⟩, 0, 2, 3⟩,
    ⟨⟨.move (.frm 0), (.loc 15), none⟩, 0, 3, 0⟩,
    ⟨⟨.indexStr (.loc 15) (.const (.int .i64 (.ofNat 1))), (.loc 16), none⟩, 0, 4, 8⟩,
    ⟨⟨.conv (.int .i64) (.loc 16), (.loc 17), none⟩, 1, 5, 24⟩,
    ⟨⟨.load (some (some 2)) (.frm 3), (.loc 18), none⟩, 1, 6, 0⟩,
    ⟨⟨.build (some (fun i => nth [(0, 1), (1, 1), (2, 2), (4, 1)] i)) (some [.bool false, .int .i64 (.ofNat 0), .int .u8 (.ofNat 0), .int .i64 (.ofNat 0), .int .i64 (.ofNat 0)]) [0, 1, 2, 3] [(.loc 14), (.loc 17), (.loc 18), (.const (.int .i64 (.ofNat 1)))], (.loc 19), none⟩, 0, 7, 127⟩,
    ⟨⟨.move (.frm 0), (.loc 20), none⟩, 0, 8, 0⟩,
    ⟨⟨.indexStr (.loc 20) (.const (.int .i64 (.ofNat 4))), (.loc 21), none⟩, 0, 9, 256⟩,
    ⟨⟨.conv (.int .i64) (.loc 21), (.loc 22), none⟩, 1, 10, 768⟩,
    ⟨⟨.build (some (fun i => nth [(0, 5), (5, 1), (6, 1)] i)) (some [.bool false, .int .i64 (.ofNat 0), .int .u8 (.ofNat 0), .int .i64 (.ofNat 0), .int .i64 (.ofNat 0), .int .i64 (.ofNat 0), .int .u64 (.ofNat 0)]) [0, 1] [(.loc 19), (.loc 22)], (.loc 23), none⟩, 0, 11, 2047⟩,
    ⟨⟨.alloc 42 (some [.bool false, .int .i64 (.ofNat 0), .int .u8 (.ofNat 0), .int .i64 (.ofNat 0), .int .i64 (.ofNat 0), .int .i64 (.ofNat 0), .int .u64 (.ofNat 0)]), (.frm 4), none⟩, 2, 12, 0⟩,
    ⟨⟨.store (some 7) (.frm 4) (.loc 23), .non, none⟩, 3, 13, 8191⟩]))
noncomputable def G19_3 : PC :=
  (.reg [⟨.move (.const (.int .i64 (.ofNat 0))), (.frm 24), none⟩])
noncomputable def G19_4 : PC :=
  (.reg [⟨.bin (intOp iLss) (.frm 24) (.const (.int .i64 (.ofNat 8))), (.frm 25), none⟩])
noncomputable def G19_5 : PC :=
  (.reg [⟨.move (.frm 24), (.loc 26), none⟩,
    ⟨.move (.loc 26), (.frm 5), none⟩])
noncomputable def G19_6 : PC :=
  (.draw (some [⟨⟨.fieldAddr (some (6, (some none), 1)) (.frm 4), (.loc 27), none⟩, 0, 0, 0⟩,
    ⟨⟨.load (some none) (.loc 27), (.loc 28), none⟩, 1, 1, 1⟩,
    ⟨⟨.move (.frm 0), (.loc 29), none⟩, 0, 2, 0⟩,
    ⟨⟨.move (.frm 5), (.loc 30), none⟩, 0, 3, 0⟩,
    ⟨⟨.bin (intOp iAdd) (.const (.int .i64 (.ofNat 5))) (.loc 30), (.loc 31), none⟩, 0, 4, 8⟩,
    ⟨⟨.indexStr (.loc 29) (.loc 31), (.loc 32), none⟩, 0, 5, 28⟩,
    ⟨⟨.conv (.int .u64) (.loc 32), (.loc 33), none⟩, 1, 6, 60⟩,
    ⟨⟨.move (.frm 5), (.loc 34), none⟩, 0, 7, 0⟩,
    ⟨⟨.bin (intOp iMul) (.const (.int .i64 (.ofNat 8))) (.loc 34), (.loc 35), none⟩, 0, 8, 128⟩,
    ⟨⟨.bin (shOp iShl) (.loc 33) (.loc 35), (.loc 36), none⟩, 0, 9, 508⟩,
    ⟨⟨.bin (intOp iOr) (.loc 28) (.loc 36), (.loc 37), none⟩, 0, 10, 1023⟩,
    ⟨⟨.fieldAddr (some (6, (some none), 1)) (.frm 4), (.loc 38), none⟩, 0, 11, 2047⟩,
    ⟨⟨.store (some 1) (.loc 38) (.loc 37), .non, none⟩, 3, 12, 4095⟩]))
noncomputable def G19_7 : PC :=
  (.reg [⟨.bin (intOp iAdd) (.frm 24) (.const (.int .i64 (.ofNat 1))), (.loc 39), none⟩,
    ⟨.move (.loc 39), (.frm 24), none⟩])
noncomputable def L19_0 : PC :=
  (.seq G19_4
  (.seq (.cond (.frm 25)
    .skip
    (.exit 0))
  (.seq (.block 1 (.seq G19_5
  G19_6))
  G19_7)))
noncomputable def G19_8 : PC :=
  (.reg [⟨.load (some (some 7)) (.frm 4), (.loc 40), none⟩,
    ⟨.store (some 7) (.frm 2) (.loc 40), .non, none⟩])
noncomputable def P19 : PC :=
  (.seq G19_0
  (.seq G19_1
  (.seq G19_2
  (.seq (.seq G19_3
  (.block 0 (.loop L19_0)))
  (.seq G19_8
  .ret)))))
def M19 : MN := ⟨2198972923842, 41, 1⟩
noncomputable def R19 : List RV := [.cell (some (some 7)) (.frm 2)]
theorem pfn19 : pfn E 19 = some ⟨M19, P19, R19⟩ := by kernel_rfl
/-- slices.ContainsFunc[[]int,int] -/
noncomputable def P24 : PC :=
  (.seq (.reg [⟨.move (.const (.bool false)), (.frm 4), none⟩])
  (.seq (.reg [⟨.move (.frm 0), (.loc 5), none⟩,
    ⟨.move (.frm 1), (.loc 6), none⟩,
    ⟨.call (.const (.func (.func 38) #[] #[])) [(.loc 5), (.loc 6)], (.loc 7), none⟩,
    ⟨.bin (intOp iGeq) (.loc 7) (.const (.int .i64 (.ofNat 0))), (.loc 8), none⟩,
    ⟨.move (.loc 8), (.frm 4), none⟩])
  .ret))
def M24 : MN := ⟨492, 9, 1⟩
noncomputable def R24 : List RV := [.tmp (.frm 4)]
theorem pfn24 : pfn E 24 = some ⟨M24, P24, R24⟩ := by kernel_rfl
/-- besom/trace.small$1 -/
noncomputable def P25 : PC :=
  (.seq (.reg [⟨.move (.const (.bool false)), (.frm 2), none⟩])
  (.seq (.reg [⟨.move (.frm 0), (.loc 3), none⟩,
    ⟨.bin (intOp iLss) (.loc 3) (.const (.int .i64 (.ofNat 0))), (.loc 4), none⟩,
    ⟨.move (.loc 4), (.loc 5), none⟩,
    ⟨.move (.frm 0), (.loc 6), (some ((.loc 5), false))⟩,
    ⟨.bin (intOp iGtr) (.loc 6) (.const (.int .i64 (.ofNat 255))), (.loc 7), (some ((.loc 5), false))⟩,
    ⟨.pick (.loc 5) (.const (.bool true)) (.loc 7), (.loc 8), none⟩,
    ⟨.move (.loc 8), (.frm 2), none⟩])
  .ret))
def M25 : MN := ⟨506, 9, 1⟩
noncomputable def R25 : List RV := [.tmp (.frm 2)]
theorem pfn25 : pfn E 25 = some ⟨M25, P25, R25⟩ := by kernel_rfl
/-- besom/trace.bytesOf$1 -/
noncomputable def L26_0 : PC :=
  (.seq (.reg [⟨.bin (intOp iLss) (.frm 4) (.const (.int .i64 (.ofNat 8))), (.frm 5), none⟩])
  (.seq (.cond (.frm 5)
    .skip
    (.exit 0))
  (.seq (.block 1 (.seq (.reg [⟨.move (.frm 4), (.loc 6), none⟩,
    ⟨.move (.loc 6), (.frm 3), none⟩])
  (.seq (.reg [⟨.move (.frm 0), (.loc 7), none⟩,
    ⟨.load (some none) (.frm 1), (.loc 8), none⟩,
    ⟨.move (.frm 3), (.loc 9), none⟩,
    ⟨.bin (intOp iMul) (.const (.int .i64 (.ofNat 8))) (.loc 9), (.loc 10), none⟩,
    ⟨.bin (shOp iShr) (.loc 8) (.loc 10), (.loc 11), none⟩,
    ⟨.conv (.int .u8) (.loc 11), (.loc 12), none⟩,
    ⟨.call (.loc 7) [(.loc 12)], (.loc 13), none⟩,
    ⟨.un (unE .not) (.loc 13), (.frm 14), none⟩])
  (.cond (.frm 14)
    .ret
    .skip))))
  (.reg [⟨.bin (intOp iAdd) (.frm 4) (.const (.int .i64 (.ofNat 1))), (.loc 15), none⟩,
    ⟨.move (.loc 15), (.frm 4), none⟩]))))
noncomputable def P26 : PC :=
  (.seq (.reg [⟨.move (.const (.int .i64 (.ofNat 0))), (.frm 4), none⟩])
  (.block 0 (.loop L26_0)))
def M26 : MN := ⟨49092, 16, 1⟩
noncomputable def R26 : List RV := []
theorem pfn26 : pfn E 26 = some ⟨M26, P26, R26⟩ := by kernel_rfl
/-- slices.IndexFunc[[]int,int] -/
noncomputable def L38_0 : PC :=
  (.seq (.reg [⟨.bin (intOp iLss) (.frm 8) (.frm 7), (.frm 9), none⟩])
  (.seq (.cond (.frm 9)
    .skip
    (.exit 0))
  (.seq (.block 1 (.seq (.reg [⟨.move (.frm 8), (.loc 10), none⟩,
    ⟨.move (.loc 10), (.frm 5), none⟩])
  (.seq (.reg [⟨.move (.frm 1), (.loc 11), none⟩,
    ⟨.move (.frm 0), (.loc 12), none⟩,
    ⟨.move (.frm 5), (.loc 13), none⟩,
    ⟨.indexSl (some ⟨3, 1, 8, [.int .i64 (.ofNat 0)]⟩) (.loc 12) (.loc 13), (.loc 14), none⟩,
    ⟨.load (some none) (.loc 14), (.loc 15), none⟩,
    ⟨.call (.loc 11) [(.loc 15)], (.frm 16), none⟩])
  (.cond (.frm 16)
    (.seq (.reg [⟨.move (.frm 5), (.loc 17), none⟩,
      ⟨.move (.loc 17), (.frm 4), none⟩])
    .ret)
    .skip))))
  (.reg [⟨.bin (intOp iAdd) (.frm 8) (.const (.int .i64 (.ofNat 1))), (.loc 18), none⟩,
    ⟨.move (.loc 18), (.frm 8), none⟩]))))
noncomputable def P38 : PC :=
  (.seq (.reg [⟨.move (.const (.int .i64 (.ofNat 0))), (.frm 4), none⟩])
  (.seq (.seq (.reg [⟨.move (.frm 0), (.loc 6), none⟩,
    ⟨.len (.loc 6), (.frm 7), none⟩,
    ⟨.move (.const (.int .i64 (.ofNat 0))), (.frm 8), none⟩])
  (.block 0 (.loop L38_0)))
  (.seq (.reg [⟨.move (.const (.int .i64 (.negSucc 0))), (.frm 4), none⟩])
  .ret)))
def M38 : MN := ⟨457804, 19, 1⟩
noncomputable def R38 : List RV := [.tmp (.frm 4)]
theorem pfn38 : pfn E 38 = some ⟨M38, P38, R38⟩ := by kernel_rfl
end T
