/- Words; the reference's Word. -/
import Derived.Test.YtkbmckmlnphpmaaGreatDoorC
set_option linter.unusedSimpArgs false
set_option linter.unusedVariables false
namespace Go.Proofs.YtkbmckmlnphpmaaGreatDoor
open Go.RowKit Go.Lib Go.Shelf

/-- a text and an error -/
def StrErr (s : ByteArray) (er : Int) (w : World) (e : Ending) (w' : World) : Prop := e = .returned (.tuple #[.string s, .int .i64 er]) ∧ Below w.heap.size w w'

set_option maxRecDepth 100000 in
set_option maxHeartbeats 1000000 in
theorem words_any (word : ByteArray) (A : Option Addr) (n c : Nat) (l : List Int) (w : World) (hl : l.length = n) (hw : WAt w A l) (hT : Tab w) (h1 : word.size ≤ 1000000) (h2 : n ≤ 1000000) :
    Calls Tryz.prog 14 #[.string word, .slice A n c] w (StrErr (if wordB word then lineT word l else ⟨#[]⟩) (if wordB word then 0 else 2) w) := by
  have hk := Lib.hid (isWord_any word w)
  have hL := Lib.hid fun w1 (hb : Below w.heap.size w w1) => line_any word A n c l w1 hl (hw.below hb) (hT.below hb) h1 h2
  generalize wordB word = t at hk
  clear hl hw hT h1 h2
  cases t
  · go_enter Tryz.func14, Tryz.ntmps14
    go_wp2_with fail
    refine hk.out.mono ?_
    rintro e w1 ⟨rfl, hb⟩
    have hb' := Lib.hid hb
    clear hb
    go_wp2
    go_ret2
    exact ⟨rfl, hb'.out⟩
  · go_enter Tryz.func14, Tryz.ntmps14
    go_wp2_with fail
    refine hk.out.mono ?_
    rintro e w1 ⟨rfl, hb⟩
    have hb' := Lib.hid hb
    clear hb
    go_wp2_with fail
    refine (hL.out _ hb'.out).mono ?_
    rintro e w2 ⟨rfl, hb2⟩
    have hb2' := Lib.hid (Below.next hb'.out hb2)
    clear hb2
    go_wp2
    go_ret2
    exact ⟨rfl, hb2'.out⟩
end Go.Proofs.YtkbmckmlnphpmaaGreatDoor
