/- The pieces of lives, and the state between them. Nothing is proved here. -/
import Derived.Test.YtphkjlkgfcjbmaaGreatDoorTabT
import Derived.Test.YtphkjlkgfcjbmaaGreatDoorEvE
set_option linter.all false
open Go Go.Ev Go.Proofs
namespace T
noncomputable def c11 : Code := match Tryz.f11.body with | some c => c | none => .skip
noncomputable def p11 : Option PF := pf E 11
noncomputable def M11 : MN := match p11 with | some p => p.M | none => ⟨0, 0, 0⟩
noncomputable def cx11 : Cx := ⟨evF E 1000, none, 11, 1000⟩
noncomputable def s11 : St := ⟨argsT [] 0 .leaf, [], h0⟩
/-- What is left of the first piece. -/
noncomputable def L1 : Ev.Lit := ⟨[(0, .bool false), (1, .pointer (some ⟨86, 0, none⟩)), (2, .int .i64 (.ofNat 0)), (3, .int .u64 (.ofNat 14425825404000991619)), (4, .int .i64 (.ofNat 0)), (5, .pointer (some ⟨1426, 0, none⟩)), (6, .slice (some ⟨1425, 0, none⟩) 2 9223372036854775808), (7, .int .i64 (.ofNat 0)), (8, .int .u64 (.ofNat 13872759842370640195)), (9, .int .i64 (.ofNat 0))],
  [(0, .fixed 1 64 (.node .leaf (some tab) .leaf)),
   (86, .cells 1 82 false 15 (ofPairs [(0, [.int .u8 (.ofNat 0), .bool false, .slice (some ⟨68, 0, none⟩) 32 9223372036854775808, .int .i64 (.ofNat 2), .slice (some ⟨74, 0, none⟩) 1 9223372036854775808, .slice none 0 0, .slice (some ⟨61, 0, none⟩) 1 1, .slice (some ⟨75, 0, none⟩) 1 1, .slice none 0 0, .slice none 0 0, .slice none 0 0, .slice none 0 0, .slice (some ⟨78, 0, none⟩) 1 1, .slice (some ⟨85, 0, none⟩) 1 9223372036854775808, .slice none 0 0])])),
   (1426, .cells 1 82 false 15 (ofPairs [(0, [.int .u8 (.ofNat 0), .bool false, .slice (some ⟨725, 0, none⟩) 32 9223372036854775808, .int .i64 (.ofNat 2), .slice (some ⟨731, 0, none⟩) 1 9223372036854775808, .slice none 0 0, .slice (some ⟨735, 0, none⟩) 1 9223372036854775808, .slice (some ⟨737, 0, none⟩) 1 9223372036854775808, .slice none 0 0, .slice none 0 0, .slice none 0 0, .slice none 0 0, .slice (some ⟨741, 0, none⟩) 1 9223372036854775808, .slice (some ⟨745, 0, none⟩) 1 9223372036854775808, .slice none 0 0])])),
   (1425, .cells 2 42 true 7 (ofPairs [(0, [.bool true, .int .i64 (.ofNat 0), .int .u8 (.ofNat 0), .int .i64 (.ofNat 0), .int .i64 (.ofNat 1), .int .i64 (.ofNat 0), .int .u64 (.ofNat 13872759842370640195)]), (1, [.bool true, .int .i64 (.ofNat 0), .int .u8 (.ofNat 0), .int .i64 (.ofNat 0), .int .i64 (.ofNat 1), .int .i64 (.ofNat 5), .int .u64 (.ofNat 13872759842370640195)])])),
   (68, .cells 32 40 true 1 (ofPairs [(0, [.int .u64 (.ofNat 0)]), (1, [.int .u64 (.ofNat 0)]), (2, [.int .u64 (.ofNat 0)]), (3, [.int .u64 (.ofNat 0)]), (4, [.int .u64 (.ofNat 0)]), (5, [.int .u64 (.ofNat 0)]), (6, [.int .u64 (.ofNat 0)]), (7, [.int .u64 (.ofNat 0)]), (8, [.int .u64 (.ofNat 0)]), (9, [.int .u64 (.ofNat 0)]), (10, [.int .u64 (.ofNat 0)]), (11, [.int .u64 (.ofNat 0)]), (12, [.int .u64 (.ofNat 0)]), (13, [.int .u64 (.ofNat 0)]), (14, [.int .u64 (.ofNat 0)]), (15, [.int .u64 (.ofNat 0)]), (16, [.int .u64 (.ofNat 0)]), (17, [.int .u64 (.ofNat 0)]), (18, [.int .u64 (.ofNat 0)]), (19, [.int .u64 (.ofNat 0)]), (20, [.int .u64 (.ofNat 0)]), (21, [.int .u64 (.ofNat 0)]), (22, [.int .u64 (.ofNat 0)]), (23, [.int .u64 (.ofNat 0)]), (24, [.int .u64 (.ofNat 0)]), (25, [.int .u64 (.ofNat 0)]), (26, [.int .u64 (.ofNat 0)]), (27, [.int .u64 (.ofNat 0)]), (28, [.int .u64 (.ofNat 0)]), (29, [.int .u64 (.ofNat 0)]), (30, [.int .u64 (.ofNat 0)]), (31, [.int .u64 (.ofNat 0)])])),
   (74, .cells 1 40 true 1 (ofPairs [(0, [.int .u64 (.ofNat 1)])])),
   (61, .cells 1 53 false 1 (ofPairs [(0, [.slice none 0 0])])),
   (75, .cells 1 192 false 2 (ofPairs [(0, [.int .u64 (.ofNat 0), .int .i64 (.ofNat 0)])])),
   (78, .cells 1 125 false 2 (ofPairs [(0, [.slice (some ⟨80, 0, none⟩) 4 4, .bool false])])),
   (85, .cells 1 109 true 5 (ofPairs [(0, [.slice none 0 0, .int .i64 (.ofNat 0), .bool false, .int .i64 (.ofNat 0), .int .u64 (.ofNat 0)])])),
   (725, .cells 32 40 true 1 (ofPairs [(0, [.int .u64 (.ofNat 0)]), (1, [.int .u64 (.ofNat 0)]), (2, [.int .u64 (.ofNat 0)]), (3, [.int .u64 (.ofNat 0)]), (4, [.int .u64 (.ofNat 0)]), (5, [.int .u64 (.ofNat 0)]), (6, [.int .u64 (.ofNat 0)]), (7, [.int .u64 (.ofNat 0)]), (8, [.int .u64 (.ofNat 0)]), (9, [.int .u64 (.ofNat 0)]), (10, [.int .u64 (.ofNat 0)]), (11, [.int .u64 (.ofNat 0)]), (12, [.int .u64 (.ofNat 0)]), (13, [.int .u64 (.ofNat 0)]), (14, [.int .u64 (.ofNat 0)]), (15, [.int .u64 (.ofNat 0)]), (16, [.int .u64 (.ofNat 0)]), (17, [.int .u64 (.ofNat 0)]), (18, [.int .u64 (.ofNat 0)]), (19, [.int .u64 (.ofNat 0)]), (20, [.int .u64 (.ofNat 0)]), (21, [.int .u64 (.ofNat 0)]), (22, [.int .u64 (.ofNat 0)]), (23, [.int .u64 (.ofNat 0)]), (24, [.int .u64 (.ofNat 0)]), (25, [.int .u64 (.ofNat 0)]), (26, [.int .u64 (.ofNat 0)]), (27, [.int .u64 (.ofNat 0)]), (28, [.int .u64 (.ofNat 0)]), (29, [.int .u64 (.ofNat 0)]), (30, [.int .u64 (.ofNat 0)]), (31, [.int .u64 (.ofNat 0)])])),
   (731, .cells 1 40 true 1 (ofPairs [(0, [.int .u64 (.ofNat 1)])])),
   (735, .cells 1 53 true 1 (ofPairs [(0, [.slice none 0 0])])),
   (737, .cells 1 192 true 2 (ofPairs [(0, [.int .u64 (.ofNat 0), .int .i64 (.ofNat 0)])])),
   (741, .cells 1 125 true 2 (ofPairs [(0, [.slice (some ⟨743, 0, none⟩) 4 9223372036854775808, .bool false])])),
   (745, .cells 1 109 true 5 (ofPairs [(0, [.slice none 0 0, .int .i64 (.ofNat 0), .bool true, .int .i64 (.ofNat 0), .int .u64 (.ofNat 1)])])),
   (80, .cells 4 140 false 2 (ofPairs [(0, [.bool false, .int .u64 (.ofNat 0)]), (1, [.bool false, .int .u64 (.ofNat 0)]), (2, [.bool false, .int .u64 (.ofNat 0)]), (3, [.bool false, .int .u64 (.ofNat 0)])])),
   (743, .cells 4 140 true 2 (ofPairs [(0, [.bool false, .int .u64 (.ofNat 0)]), (1, [.bool false, .int .u64 (.ofNat 0)]), (2, [.bool false, .int .u64 (.ofNat 0)]), (3, [.bool false, .int .u64 (.ofNat 0)])]))], 1793⟩
end T
