/- The table of the types of this seat: made by tab.py. -/
import Derived.Test.YtjcacgainbjopaaX0
import Derived.Test.YtjcacgainbjopaaProg
namespace Go.Proofs.Ytjcacgainbjopaa
namespace Hw
open Go
def T : Tab := [
  (2, ⟨1, false, [], [], [.int .i64 0], 0, some .int, 8⟩),
  (3, ⟨1, false, [], [], [.int .i64 0], 0, some .int, 8⟩),
  (4, ⟨1, false, [], [], [.bool false], 0, some .bool, 1⟩),
  (5, ⟨1, false, [], [], [.int .u8 0], 0, some .u8, 1⟩),
  (12, ⟨1, false, [], [], [.int .u64 0], 0, none, 8⟩),
  (15, ⟨1, false, [], [], [.pointer none], 0, none, 8⟩),
  (16, ⟨1, false, [], [], [.pointer none], 0, none, 8⟩),
  (17, ⟨1, false, [], [], [.pointer none], 0, none, 8⟩),
  (21, ⟨1, false, [], [], [.int .i32 0], 0, none, 4⟩),
  (22, ⟨1, false, [], [], [.slice none 0 0], 5, none, 24⟩),
  (23, ⟨1, false, [], [], [.slice none 0 0], 42, none, 24⟩),
  (25, ⟨1, true, [0], [1], [.slice none 0 0], 0, none, 24⟩),
  (28, ⟨1, false, [], [], [.slice none 0 0], 3, none, 24⟩),
  (35, ⟨3, true, [0, 1, 2], [1, 1, 1], [.slice none 0 0, .slice none 0 0, .int .i64 0], 0, none, 56⟩),
  (36, ⟨1, false, [], [], [.slice none 0 0], 71, none, 24⟩),
  (37, ⟨1, false, [], [], [.slice none 0 0], 4, none, 24⟩),
  (39, ⟨7, true, [0, 1, 2, 3, 4, 5, 6], [1, 1, 1, 1, 1, 1, 1], [.int .i64 0, .int .i64 0, .int .i64 0, .slice none 0 0, .slice none 0 0, .slice none 0 0, .slice none 0 0], 0, some .st, 120⟩),
  (40, ⟨1, false, [], [], [.slice none 0 0], 39, none, 24⟩),
  (42, ⟨13, true, [0, 1, 4, 11, 12], [1, 3, 7, 1, 1], [.int .i64 0, .slice none 0 0, .slice none 0 0, .int .i64 0, .int .i64 0, .int .i64 0, .int .i64 0, .slice none 0 0, .slice none 0 0, .slice none 0 0, .slice none 0 0, .slice none 0 0, .slice none 0 0], 0, some .ch, 232⟩),
  (50, ⟨1, false, [], [], [.pointer none], 0, none, 8⟩),
  (64, ⟨1, true, [0], [1], [.int .i64 0], 0, none, 8⟩),
  (71, ⟨7, true, [0, 1, 2, 3, 4, 5, 6], [1, 1, 1, 1, 1, 1, 1], [.int .i64 0, .int .i64 0, .int .i64 0, .int .i64 0, .int .i64 0, .int .i64 0, .int .i64 0], 0, some .pkt, 56⟩),
  (74, ⟨2, true, [0, 1], [1, 1], [.slice none 0 0, .int .i64 0], 0, none, 32⟩),
  (75, ⟨1, false, [], [], [.slice none 0 0], 90, none, 24⟩),
  (81, ⟨1, false, [], [], [.pointer none], 0, none, 8⟩),
  (90, ⟨11, true, [0, 1, 2, 3, 4], [1, 1, 1, 1, 7], [.int .i64 0, .int .i64 0, .int .i64 0, .int .i64 0, .int .i64 0, .int .i64 0, .int .i64 0, .int .i64 0, .int .i64 0, .int .i64 0, .int .i64 0], 0, some .ev, 88⟩),
  (97, ⟨0, true, [], [], [], 0, none, 0⟩),
  (98, ⟨0, true, [], [], [], 0, none, 0⟩),
  (104, ⟨0, true, [], [], [], 0, none, 0⟩),
  (135, ⟨1, false, [], [], [.int .u32 0], 0, none, 4⟩),
  (139, ⟨1, false, [], [], [.pointer none], 0, none, 8⟩)]
end Hw
end Go.Proofs.Ytjcacgainbjopaa
