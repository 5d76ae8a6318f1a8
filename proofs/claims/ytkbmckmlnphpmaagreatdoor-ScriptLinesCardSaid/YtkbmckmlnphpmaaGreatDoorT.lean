/- A kind's line. -/
import Derived.Test.YtkbmckmlnphpmaaGreatDoorS
set_option linter.unusedSimpArgs false
set_option linter.unusedVariables false
namespace Go.Proofs.YtkbmckmlnphpmaaGreatDoor
open Go.RowKit Go.Lib Go.Shelf

def srcW : ByteArray := ⟨#[115, 111, 117, 114, 99, 101]⟩
def macW : ByteArray := ⟨#[109, 97, 99, 104, 105, 110, 101]⟩
def leakW : ByteArray := ⟨#[108, 101, 97, 107]⟩
def askedT (k st fu : Int) : ByteArray := if k = 1 then lineT srcW [fu] else if k = 2 then lineT macW [st, fu] else lineT leakW [st, fu]
/-- the world with an asking's box -/
def askBox (w : World) (k : Int) (A1 A2 : Option Addr) (n1 c1 n2 c2 : Nat) (st fu : Int) : World := w.alloc (.cells #[.int .i64 k, .slice A1 n1 c1, .slice A2 n2 c2, .int .u64 st, .int .i64 fu] 42)

set_option maxRecDepth 100000 in
set_option maxHeartbeats 2000000 in
theorem asked_any (k : Int) (A1 A2 : Option Addr) (n1 c1 n2 c2 : Nat) (st fu : Int) (w : World) (hT : Tab w) (h1 : 0 ≤ st) (h2 : st ≤ 18446744073709551615) (h3 : 0 ≤ fu) (h4 : fu ≤ 1000000) :
    Calls Tryz.prog 58 #[.agg #[.int .i64 k, .slice A1 n1 c1, .slice A2 n2 c2, .int .u64 st, .int .i64 fu]] w (StrPost (askedT k st fu) w) := by
  have hb0 := (Below.refl w.heap.size w).alloc (Nat.le_refl _) (.cells #[.int .i64 k, .slice A1 n1 c1, .slice A2 n2 c2, .int .u64 st, .int .i64 fu] 42)
  have hb1 := Lib.hid (hb0.alloc hb0.size (.cells #[.int .u64 fu] 40))
  have hb2 := Lib.hid (hb0.alloc hb0.size (.cells #[.int .u64 st, .int .u64 fu] 40))
  have hl1 := Lib.hid (line_any srcW (some ⟨w.heap.size + 1, 0, none⟩) 1 1 [fu] ((w.alloc (.cells #[.int .i64 k, .slice A1 n1 c1, .slice A2 n2 c2, .int .u64 st, .int .i64 fu] 42)).alloc (.cells #[.int .u64 fu] 40)) rfl
    ⟨by simp; omega, fun _ => ⟨_, 0, rfl, fun i x hx => by
      have e : (w.alloc (.cells #[.int .i64 k, .slice A1 n1 c1, .slice A2 n2 c2, .int .u64 st, .int .i64 fu] 42)).heap.size = w.heap.size + 1 := by simp
      rw [← e, blk_cell (heap_alloc_new _ _)]
      cases i with
      | zero => cases hx; rfl
      | succ i => cases hx⟩⟩ (hT.below hb1.out) (by decide) (by omega))
  have hl2 := Lib.hid fun wd (hd : wd.size ≤ 1000000) => line_any wd (some ⟨w.heap.size + 1, 0, none⟩) 2 2 [st, fu] ((w.alloc (.cells #[.int .i64 k, .slice A1 n1 c1, .slice A2 n2 c2, .int .u64 st, .int .i64 fu] 42)).alloc (.cells #[.int .u64 st, .int .u64 fu] 40)) rfl
    ⟨by simp; omega, fun _ => ⟨_, 0, rfl, fun i x hx => by
      have e : (w.alloc (.cells #[.int .i64 k, .slice A1 n1 c1, .slice A2 n2 c2, .int .u64 st, .int .i64 fu] 42)).heap.size = w.heap.size + 1 := by simp
      rw [← e, blk_cell (heap_alloc_new _ _)]
      match i, hx with
      | 0, hx => cases hx; rfl
      | 1, hx => cases hx; rfl⟩⟩ (hT.below hb2.out) hd (by omega)
  have hw : IntKind.u64.wrap fu = fu := by rw [IntKind.wrap_u64]; omega
  clear hT hb0
  by_cases k1 : k = 1
  · subst k1
    have e : askedT 1 st fu = lineT srcW [fu] := rfl
    rw [e]
    have hs : srcW = ⟨#[115, 111, 117, 114, 99, 101]⟩ := rfl
    rw [hs] at hl1 ⊢
    generalize lineT ⟨#[115, 111, 117, 114, 99, 101]⟩ [fu] = t at hl1 ⊢
    go_enter Tryz.func58, Tryz.ntmps58
    go_wp2_with fail
    refine hl1.out.mono ?_
    rintro e w1 ⟨rfl, hb⟩
    have hb' := Lib.hid (Below.next hb1.out hb)
    clear hb
    go_wp2
    go_ret
    exact ⟨rfl, hb'.out⟩
  · by_cases k2 : k = 2
    · subst k2
      have e : askedT 2 st fu = lineT macW [st, fu] := rfl
      rw [e]
      have hl3 := Lib.hid (hl2.out macW (by decide))
      have hs : macW = ⟨#[109, 97, 99, 104, 105, 110, 101]⟩ := rfl
      rw [hs] at hl3 ⊢
      generalize lineT ⟨#[109, 97, 99, 104, 105, 110, 101]⟩ [st, fu] = t at hl3 ⊢
      go_enter Tryz.func58, Tryz.ntmps58
      go_wp2_with fail
      refine hl3.out.mono ?_
      rintro e w1 ⟨rfl, hb⟩
      have hb' := Lib.hid (Below.next hb2.out hb)
      clear hb
      go_wp2
      go_ret
      exact ⟨rfl, hb'.out⟩
    · have e : askedT k st fu = lineT leakW [st, fu] := by unfold askedT; rw [if_neg k1, if_neg k2]
      rw [e]
      have hl3 := Lib.hid (hl2.out leakW (by decide))
      have hs : leakW = ⟨#[108, 101, 97, 107]⟩ := rfl
      rw [hs] at hl3 ⊢
      generalize lineT ⟨#[108, 101, 97, 107]⟩ [st, fu] = t at hl3 ⊢
      have k1' : (k == 1) = false := by simpa using k1
      have k2' : (k == 2) = false := by simpa using k2
      go_enter Tryz.func58, Tryz.ntmps58
      go_wp2_with fail
      refine hl3.out.mono ?_
      rintro e w1 ⟨rfl, hb⟩
      have hb' := Lib.hid (Below.next hb2.out hb)
      clear hb
      go_wp2
      go_ret
      exact ⟨rfl, hb'.out⟩

/-- what a reading gives: the kind, the stack, the fuel -/
def readV (k : Int) (l : List Int) : Int × Int := if k = 1 then (match l with | [f] => (0, min f 1000001) | _ => (0, 0)) else (match l with | [s, f] => (s, min f 1000001) | _ => (0, 0))
def ReadPost (k st fu : Int) (w : World) (e : Ending) (w' : World) : Prop := e = .returned (.agg #[.int .i64 k, .slice none 0 0, .slice none 0 0, .int .u64 st, .int .i64 fu]) ∧ Below w.heap.size w w'
end Go.Proofs.YtkbmckmlnphpmaaGreatDoor
