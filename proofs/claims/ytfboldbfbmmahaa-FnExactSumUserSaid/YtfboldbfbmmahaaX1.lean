/- The table of the types of this seat: made by tab.py. -/
import Derived.Test.YtfboldbfbmmahaaX0
import Derived.Test.YtfboldbfbmmahaaProg
namespace Go.Proofs.Ytfboldbfbmmahaa
namespace Hw
open Go
def T : Tab := [
  (2, ⟨1, false, [], [], [.int .i64 0], 0, some .int, 8⟩),
  (3, ⟨1, false, [], [], [.int .i64 0], 0, some .int, 8⟩),
  (4, ⟨1, false, [], [], [.bool false], 0, some .bool, 1⟩),
  (5, ⟨1, false, [], [], [.int .u8 0], 0, some .u8, 1⟩),
  (12, ⟨1, false, [], [], [.int .u64 0], 0, none, 8⟩),
  (15, ⟨1, false, [], [], [.pointer none], 0, none, 8⟩),
  (16, ⟨1, false, [], [], [.pointer none], 0, none, 8⟩),
  (17, ⟨1, false, [], [], [.pointer none], 0, none, 8⟩),
  (21, ⟨1, false, [], [], [.int .i32 0], 0, none, 4⟩),
  (22, ⟨1, false, [], [], [.slice none 0 0], 94, none, 24⟩),
  (24, ⟨1, true, [0], [1], [.slice none 0 0], 0, none, 24⟩),
  (27, ⟨1, false, [], [], [.slice none 0 0], 65, none, 24⟩),
  (29, ⟨1, true, [0], [1], [.slice none 0 0], 0, none, 24⟩),
  (37, ⟨1, false, [], [], [.slice none 0 0], 3, none, 24⟩),
  (41, ⟨1, false, [], [], [.slice none 0 0], 5, none, 24⟩),
  (42, ⟨1, false, [], [], [.slice none 0 0], 49, none, 24⟩),
  (43, ⟨1, false, [], [], [.slice none 0 0], 4, none, 24⟩),
  (45, ⟨7, true, [0, 1, 2, 3, 4, 5, 6], [1, 1, 1, 1, 1, 1, 1], [.int .i64 0, .int .i64 0, .int .i64 0, .slice none 0 0, .slice none 0 0, .slice none 0 0, .slice none 0 0], 0, some .st, 120⟩),
  (49, ⟨7, true, [0, 1, 2, 3, 4, 5, 6], [1, 1, 1, 1, 1, 1, 1], [.int .i64 0, .int .i64 0, .int .i64 0, .int .i64 0, .int .i64 0, .int .i64 0, .int .i64 0], 0, some .pkt, 56⟩),
  (62, ⟨3, true, [0, 1, 2], [1, 1, 1], [.slice none 0 0, .slice none 0 0, .int .i64 0], 0, none, 56⟩),
  (63, ⟨1, false, [], [], [.slice none 0 0], 45, none, 24⟩),
  (65, ⟨13, true, [0, 1, 4, 11, 12], [1, 3, 7, 1, 1], [.int .i64 0, .slice none 0 0, .slice none 0 0, .int .i64 0, .int .i64 0, .int .i64 0, .int .i64 0, .slice none 0 0, .slice none 0 0, .slice none 0 0, .slice none 0 0, .slice none 0 0, .slice none 0 0], 0, some .ch, 232⟩),
  (73, ⟨1, true, [0], [1], [.int .i64 0], 0, none, 8⟩),
  (79, ⟨1, false, [], [], [.pointer none], 0, none, 8⟩),
  (88, ⟨3, true, [0, 1, 2], [1, 1, 1], [.slice none 0 0, .slice none 0 0, .int .i64 0], 0, none, 56⟩),
  (89, ⟨1, false, [], [], [.slice none 0 0], 147, none, 24⟩),
  (91, ⟨7, true, [0, 1, 2, 3, 4, 5, 6], [1, 1, 1, 1, 1, 1, 1], [.int .i64 0, .int .i64 0, .int .i64 0, .slice none 0 0, .slice none 0 0, .slice none 0 0, .slice none 0 0], 0, some .st, 120⟩),
  (92, ⟨1, false, [], [], [.slice none 0 0], 91, none, 24⟩),
  (94, ⟨13, true, [0, 1, 4, 11, 12], [1, 3, 7, 1, 1], [.int .i64 0, .slice none 0 0, .slice none 0 0, .int .i64 0, .int .i64 0, .int .i64 0, .int .i64 0, .slice none 0 0, .slice none 0 0, .slice none 0 0, .slice none 0 0, .slice none 0 0, .slice none 0 0], 0, some .ch, 232⟩),
  (101, ⟨1, false, [], [], [.pointer none], 0, none, 8⟩),
  (106, ⟨2, true, [0, 1], [1, 1], [.slice none 0 0, .int .i64 0], 0, none, 32⟩),
  (107, ⟨1, false, [], [], [.slice none 0 0], 130, none, 24⟩),
  (113, ⟨0, true, [], [], [], 0, none, 0⟩),
  (114, ⟨0, true, [], [], [], 0, none, 0⟩),
  (130, ⟨11, true, [0, 1, 2, 3, 4], [1, 1, 1, 1, 7], [.int .i64 0, .int .i64 0, .int .i64 0, .int .i64 0, .int .i64 0, .int .i64 0, .int .i64 0, .int .i64 0, .int .i64 0, .int .i64 0, .int .i64 0], 0, some .ev, 88⟩),
  (132, ⟨0, true, [], [], [], 0, none, 0⟩),
  (147, ⟨7, true, [0, 1, 2, 3, 4, 5, 6], [1, 1, 1, 1, 1, 1, 1], [.int .i64 0, .int .i64 0, .int .i64 0, .int .i64 0, .int .i64 0, .int .i64 0, .int .i64 0], 0, some .pkt, 56⟩),
  (177, ⟨1, false, [], [], [.int .u32 0], 0, none, 4⟩),
  (181, ⟨1, false, [], [], [.pointer none], 0, none, 8⟩)]
end Hw
end Go.Proofs.Ytfboldbfbmmahaa
