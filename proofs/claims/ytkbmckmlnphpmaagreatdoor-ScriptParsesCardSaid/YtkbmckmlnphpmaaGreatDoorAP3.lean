/- The reference's Unline, whole; the reference's Same. -/
import Derived.Test.YtkbmckmlnphpmaaGreatDoorAP2
set_option linter.unusedSimpArgs false
set_option linter.unusedVariables false
namespace Go.Proofs.YtkbmckmlnphpmaaGreatDoor
open Go.RowKit Go.Lib Go.Shelf

theorem lastD_of {l : List Int} {n : Nat} {x : Int} (hn : l.length = n + 1) (hx : l[n]? = some x) (d : Int) : l.getLastD d = x := by
  rw [List.getLastD_eq_getLast?, List.getLast?_eq_getElem?, hn, Nat.add_sub_cancel, hx]; rfl
theorem refUnline_any (s : ByteArray) (w : World) (hs : s.size ≤ 1000000) : Calls Tryz.prog 22 #[.string s] w (RUnlPost s w) := by
  cases hu : unwM s with
  | none => exact refUnline_none s w hs hu
  | some pl =>
    obtain ⟨p, l⟩ := pl
    rcases Nat.eq_zero_or_pos l.length with h0 | h0
    · have : l = [] := List.length_eq_zero_iff.1 h0
      subst this
      exact refUnline_empty s p w hs hu
    · obtain ⟨n, hn⟩ : ∃ n, l.length = n + 1 := ⟨l.length - 1, by omega⟩
      obtain ⟨x, hx⟩ : ∃ x, l[n]? = some x := ⟨_, List.getElem?_eq_getElem (by omega)⟩
      have hlast := fun d => lastD_of hn hx d
      have hm : ∀ v, refUnlM s = v → unlineM s = v := fun v h => by rw [unlineM_eq, h]
      by_cases hbig : 1000000 < x
      · exact refUnline_big s p l n x w hs hu hn hx hbig (hm _ (by unfold refUnlM; rw [hu]; dsimp only; rw [hlast, if_pos hbig]))
      · have hnb : ∀ v, (if p = srcW ∧ l.length = 1 then some ((1 : Int), (0 : Int), l.getLastD 0) else if p = macW ∧ l.length = 2 then some (2, l.headD 0, l.getLastD 0) else if p = leakW ∧ l.length = 2 then some (3, l.headD 0, l.getLastD 0) else none) = v → unlineM s = v := fun v h => hm v (by unfold refUnlM; rw [hu]; dsimp only; rw [hlast, if_neg hbig]; exact h)
        have two : ∀ {l : List Int}, l.length = 2 → ∃ a b, l = [a, b] := fun {l} h => by
          match l, h with
          | [a, b], _ => exact ⟨a, b, rfl⟩
        by_cases h1 : p = srcW
        · subst h1
          by_cases hq : n = 0
          · subst hq
            obtain ⟨y, rfl⟩ := List.length_eq_one_iff.1 hn
            cases hx
            exact refUnline_src s x w hs hu hbig
          · exact refUnline_src_no s l n x w hs hu hn hx hbig (hnb _ (by rw [if_neg (by rintro ⟨_, h⟩; omega), if_neg (by rintro ⟨h, _⟩; revert h; decide), if_neg (by rintro ⟨h, _⟩; revert h; decide)])) hq
        · by_cases h2 : p = macW
          · subst h2
            by_cases hq : n = 1
            · subst hq
              obtain ⟨a, b, rfl⟩ := two hn
              cases hx
              exact refUnline_mac s a x w hs hu hbig
            · exact refUnline_mac_no s l n x w hs hu hn hx hbig (hnb _ (by rw [if_neg (by rintro ⟨h, _⟩; exact h1 h), if_neg (by rintro ⟨_, h⟩; omega), if_neg (by rintro ⟨h, _⟩; revert h; decide)])) hq
          · by_cases h3 : p = leakW
            · subst h3
              by_cases hq : n = 1
              · subst hq
                obtain ⟨a, b, rfl⟩ := two hn
                cases hx
                exact refUnline_leak s a x w hs hu hbig
              · exact refUnline_leak_no s l n x w hs hu hn hx hbig (hnb _ (by rw [if_neg (by rintro ⟨h, _⟩; exact h1 h), if_neg (by rintro ⟨h, _⟩; exact h2 h), if_neg (by rintro ⟨_, h⟩; omega)])) hq
            · have ne : ∀ {q : ByteArray}, p ≠ q → ¬ p.toList = q.data.toList := fun {q} h e => h (ext_bytes (by rw [← e, ByteArray.toList_eq]))
              exact refUnline_other s p (ne h1) (ne h2) (ne h3) l n x w hs hu hn hx hbig (hnb _ (by rw [if_neg (by rintro ⟨h, _⟩; exact h1 h), if_neg (by rintro ⟨h, _⟩; exact h2 h), if_neg (by rintro ⟨h, _⟩; exact h3 h)]))
end Go.Proofs.YtkbmckmlnphpmaaGreatDoor
