/- The table of the types of this seat: made by tab.py. -/
import Derived.Test.YtmhighcagpbmeaaX0
import Derived.Test.YtmhighcagpbmeaaProg
namespace Go.Proofs.Ytmhighcagpbmeaa
namespace Hw
open Go
def T : Tab := [
  (2, ⟨1, false, [], [], [.int .i64 0], 0, some .int, 8⟩),
  (3, ⟨1, false, [], [], [.int .i64 0], 0, some .int, 8⟩),
  (4, ⟨1, false, [], [], [.bool false], 0, some .bool, 1⟩),
  (5, ⟨1, false, [], [], [.int .u8 0], 0, some .u8, 1⟩),
  (12, ⟨1, false, [], [], [.int .u64 0], 0, none, 8⟩),
  (15, ⟨1, false, [], [], [.pointer none], 0, none, 8⟩),
  (16, ⟨1, false, [], [], [.pointer none], 0, none, 8⟩),
  (17, ⟨1, false, [], [], [.pointer none], 0, none, 8⟩),
  (21, ⟨1, false, [], [], [.int .i32 0], 0, none, 4⟩),
  (22, ⟨1, false, [], [], [.slice none 0 0], 5, none, 24⟩),
  (23, ⟨1, false, [], [], [.slice none 0 0], 3, none, 24⟩),
  (25, ⟨3, true, [0, 1, 2], [1, 1, 1], [.slice none 0 0, .slice none 0 0, .int .i64 0], 0, none, 56⟩),
  (26, ⟨1, false, [], [], [.slice none 0 0], 44, none, 24⟩),
  (27, ⟨1, false, [], [], [.slice none 0 0], 4, none, 24⟩),
  (29, ⟨7, true, [0, 1, 2, 3, 4, 5, 6], [1, 1, 1, 1, 1, 1, 1], [.int .i64 0, .int .i64 0, .int .i64 0, .slice none 0 0, .slice none 0 0, .slice none 0 0, .slice none 0 0], 0, some .st, 120⟩),
  (30, ⟨1, false, [], [], [.slice none 0 0], 29, none, 24⟩),
  (32, ⟨13, true, [0, 1, 4, 11, 12], [1, 3, 7, 1, 1], [.int .i64 0, .slice none 0 0, .slice none 0 0, .int .i64 0, .int .i64 0, .int .i64 0, .int .i64 0, .slice none 0 0, .slice none 0 0, .slice none 0 0, .slice none 0 0, .slice none 0 0, .slice none 0 0], 0, some .ch, 232⟩),
  (44, ⟨7, true, [0, 1, 2, 3, 4, 5, 6], [1, 1, 1, 1, 1, 1, 1], [.int .i64 0, .int .i64 0, .int .i64 0, .int .i64 0, .int .i64 0, .int .i64 0, .int .i64 0], 0, some .pkt, 56⟩),
  (48, ⟨1, false, [], [], [.slice none 0 0], 32, none, 24⟩),
  (50, ⟨1, true, [0], [1], [.slice none 0 0], 0, none, 24⟩),
  (71, ⟨1, false, [], [], [.pointer none], 0, none, 8⟩),
  (88, ⟨3, true, [0, 1, 2], [1, 1, 1], [.int .i64 0, .nilFunc, .nilFunc], 0, none, 24⟩),
  (95, ⟨1, true, [0], [1], [.int .i64 0], 0, none, 8⟩),
  (98, ⟨1, false, [], [], [.pointer none], 0, none, 8⟩),
  (101, ⟨1, false, [], [], [.slice none 0 0], 88, none, 24⟩),
  (104, ⟨1, false, [], [], [.pointer none], 0, none, 8⟩),
  (106, ⟨2, true, [0, 1], [1, 1], [.slice none 0 0, .int .i64 0], 0, none, 32⟩),
  (109, ⟨1, false, [], [], [.slice none 0 0], 134, none, 24⟩),
  (115, ⟨1, false, [], [], [.pointer none], 0, none, 8⟩),
  (118, ⟨1, false, [], [], [.pointer none], 0, none, 8⟩),
  (120, ⟨14, true, [0, 3, 4, 11, 12, 13], [3, 1, 7, 1, 1, 1], [.slice none 0 0, .slice none 0 0, .int .i64 0, .int .i64 0, .int .i64 0, .int .i64 0, .int .i64 0, .slice none 0 0, .slice none 0 0, .slice none 0 0, .slice none 0 0, .pointer none, .int .i64 0, .slice none 0 0], 0, none, 224⟩),
  (123, ⟨8, true, [0, 7], [7, 1], [.int .i64 0, .int .i64 0, .int .i64 0, .slice none 0 0, .slice none 0 0, .slice none 0 0, .slice none 0 0, .pointer none], 0, none, 128⟩),
  (134, ⟨11, true, [0, 1, 2, 3, 4], [1, 1, 1, 1, 7], [.int .i64 0, .int .i64 0, .int .i64 0, .int .i64 0, .int .i64 0, .int .i64 0, .int .i64 0, .int .i64 0, .int .i64 0, .int .i64 0, .int .i64 0], 0, some .ev, 88⟩),
  (137, ⟨0, true, [], [], [], 0, none, 0⟩),
  (138, ⟨0, true, [], [], [], 0, none, 0⟩),
  (139, ⟨0, true, [], [], [], 0, none, 0⟩),
  (167, ⟨1, false, [], [], [.int .u32 0], 0, none, 4⟩),
  (171, ⟨1, false, [], [], [.pointer none], 0, none, 8⟩)]
end Hw
end Go.Proofs.Ytmhighcagpbmeaa
