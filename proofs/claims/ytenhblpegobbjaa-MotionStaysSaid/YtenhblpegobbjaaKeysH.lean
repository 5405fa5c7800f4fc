/- The contract of keys.Parse. -/
import Derived.Test.YtenhblpegobbjaaKeysH1
import Derived.Test.YtenhblpegobbjaaKeysH2
import Derived.Test.YtenhblpegobbjaaKeysH3
import Derived.Test.YtenhblpegobbjaaKeysH4
import Derived.Test.YtenhblpegobbjaaKeysH5
import Derived.Test.YtenhblpegobbjaaKeysH6
namespace Go.Proofs.Ytenhblpegobbjaa
open Go.RowKit
theorem Parse_any (s : ByteArray) (w : World) (hs : s.size ≤ 1000) :
    Calls Try.prog 24 #[.string s] w (ParseOut w s) := by
  rcases Keys.cls_four s.data.toList with h | h | h | h
  · exact Parse_c1 s w hs h
  · exact Parse_c2 s w hs h
  · exact Parse_c3 s w hs h
  · have h2 := Keys.Stage.parse.what s.data.toList
    rcases (by omega : (Keys.parse s.data.toList).2.2 = 0 ∨ (Keys.parse s.data.toList).2.2 = 1 ∨ (Keys.parse s.data.toList).2.2 = 2) with h1 | h1 | h1
    · exact Parse_c4 s w hs h h1
    · exact Parse_c5 s w hs h h1
    · exact Parse_c6 s w hs h h1
end Go.Proofs.Ytenhblpegobbjaa
