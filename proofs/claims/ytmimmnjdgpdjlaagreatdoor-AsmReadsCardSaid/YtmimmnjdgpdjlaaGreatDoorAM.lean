/- Two lists of instructions that are the same; much. -/
import Derived.Test.YtmimmnjdgpdjlaaGreatDoorAE
set_option linter.unusedSimpArgs false
set_option linter.unusedVariables false
namespace Go.Proofs.YtmimmnjdgpdjlaaGreatDoor
open Go.RowKit Go.Lib Go.Shelf

theorem much26_any (A : Option Addr) (n c : Nat) (w : World) (b : Bool) (hb : (b = true ∧ 200 < n) ∨ (b = false ∧ n ≤ 200)) : Calls Tryz.prog 26 #[.slice A n c] w fun e w' => e = .returned (.bool b) ∧ w' = w := by
  rcases hb with ⟨rfl, h⟩ | ⟨rfl, h⟩
  · have e0 : (200 : Int) < (n : Int) := by omega
    go_enter Tryz.func26, Tryz.ntmps26
    go_wp2
    go_ret
    exact ⟨rfl, rfl⟩
  · have e0 : ¬ (200 : Int) < (n : Int) := by omega
    go_enter Tryz.func26, Tryz.ntmps26
    go_wp2
    go_ret
    exact ⟨rfl, rfl⟩
set_option maxRecDepth 100000 in
set_option maxHeartbeats 8000000 in
theorem same18_any (L : List In) (A1 A2 : Option Addr) (c1 c2 : Nat) (w : World) (h1 : InsAt w L A1) (h2 : InsAt w L A2) (hlen : L.length ≤ 2000000) :
    Calls Tryz.prog 18 #[.slice A1 L.length c1, .slice A2 L.length c2] w (BoolPost true w) := by
  obtain ⟨n, hnn⟩ : ∃ n, L.length = n := ⟨_, rfl⟩
  rw [hnn] at hlen ⊢
  have hn' := Lib.hid hnn
  have h1 := Lib.hid h1
  have h2 := Lib.hid h2
  clear hnn
  go_enter Tryz.func18, Tryz.ntmps18
  go_wp2_with fail
  go_loopg [5] n (fun g s5 wr => ∃ k : Nat, k + g = n ∧ s5 = .int .i64 k ∧ Below w.heap.size w wr)
  case atStart => exact ⟨0, by omega, rfl, Below.refl _ _⟩
  case round =>
    obtain ⟨k, hkg, rfl, hbr⟩ := hrel
    have hbr := Lib.hid hbr
    cases gk with
    | zero =>
      have e0 : ¬ (k : Int) < (n : Int) := by omega
      go_wp2
      go_ret
      exact ⟨rfl, hbr.out⟩
    | succ g2 =>
      have e0 : (k : Int) < (n : Int) := by omega
      obtain ⟨bk, of, i, rfl, hx, hcx⟩ := (h1.out).at_ (i := k) (by rw [hn'.out]; omega)
      obtain ⟨bq, oq, i', rfl, hx', hcy⟩ := (h2.out).at_ (i := k) (by rw [hn'.out]; omega)
      obtain rfl : i = i' := by rw [hx] at hx'; exact Option.some.inj hx'
      clear hx hx'
      have hne := Lib.hid (fun W => run_ne13 i i W)
      obtain ⟨op, bn, sh, cd, ds, sr, im, ba, ix, hb, hi, dp, lb⟩ := i
      have v0 : w.cell? ⟨bk, of + k * 13, none⟩ = some (.int .i64 op) := hcx 0 (by omega)
      have v0 := Sub.cell ((hbr.out.cell (p := ⟨bk, of + k * 13, none⟩) (cell_some_lt v0)).trans v0)
      have u0 : w.cell? ⟨bq, oq + k * 13, none⟩ = some (.int .i64 op) := hcy 0 (by omega)
      have u0 := Sub.cell ((hbr.out.cell (p := ⟨bq, oq + k * 13, none⟩) (cell_some_lt u0)).trans u0)
      have v1 : w.cell? ⟨bk, of + k * 13 + 1, none⟩ = some (.int .i64 bn) := hcx 1 (by omega)
      have v1 := Sub.cell ((hbr.out.cell (p := ⟨bk, of + k * 13 + 1, none⟩) (cell_some_lt v1)).trans v1)
      have u1 : w.cell? ⟨bq, oq + k * 13 + 1, none⟩ = some (.int .i64 bn) := hcy 1 (by omega)
      have u1 := Sub.cell ((hbr.out.cell (p := ⟨bq, oq + k * 13 + 1, none⟩) (cell_some_lt u1)).trans u1)
      have v2 : w.cell? ⟨bk, of + k * 13 + 2, none⟩ = some (.int .i64 sh) := hcx 2 (by omega)
      have v2 := Sub.cell ((hbr.out.cell (p := ⟨bk, of + k * 13 + 2, none⟩) (cell_some_lt v2)).trans v2)
      have u2 : w.cell? ⟨bq, oq + k * 13 + 2, none⟩ = some (.int .i64 sh) := hcy 2 (by omega)
      have u2 := Sub.cell ((hbr.out.cell (p := ⟨bq, oq + k * 13 + 2, none⟩) (cell_some_lt u2)).trans u2)
      have v3 : w.cell? ⟨bk, of + k * 13 + 3, none⟩ = some (.int .i64 cd) := hcx 3 (by omega)
      have v3 := Sub.cell ((hbr.out.cell (p := ⟨bk, of + k * 13 + 3, none⟩) (cell_some_lt v3)).trans v3)
      have u3 : w.cell? ⟨bq, oq + k * 13 + 3, none⟩ = some (.int .i64 cd) := hcy 3 (by omega)
      have u3 := Sub.cell ((hbr.out.cell (p := ⟨bq, oq + k * 13 + 3, none⟩) (cell_some_lt u3)).trans u3)
      have v4 : w.cell? ⟨bk, of + k * 13 + 4, none⟩ = some (.int .i64 ds) := hcx 4 (by omega)
      have v4 := Sub.cell ((hbr.out.cell (p := ⟨bk, of + k * 13 + 4, none⟩) (cell_some_lt v4)).trans v4)
      have u4 : w.cell? ⟨bq, oq + k * 13 + 4, none⟩ = some (.int .i64 ds) := hcy 4 (by omega)
      have u4 := Sub.cell ((hbr.out.cell (p := ⟨bq, oq + k * 13 + 4, none⟩) (cell_some_lt u4)).trans u4)
      have v5 : w.cell? ⟨bk, of + k * 13 + 5, none⟩ = some (.int .i64 sr) := hcx 5 (by omega)
      have v5 := Sub.cell ((hbr.out.cell (p := ⟨bk, of + k * 13 + 5, none⟩) (cell_some_lt v5)).trans v5)
      have u5 : w.cell? ⟨bq, oq + k * 13 + 5, none⟩ = some (.int .i64 sr) := hcy 5 (by omega)
      have u5 := Sub.cell ((hbr.out.cell (p := ⟨bq, oq + k * 13 + 5, none⟩) (cell_some_lt u5)).trans u5)
      have v6 : w.cell? ⟨bk, of + k * 13 + 6, none⟩ = some (.int .u64 (im : Int)) := hcx 6 (by omega)
      have v6 := Sub.cell ((hbr.out.cell (p := ⟨bk, of + k * 13 + 6, none⟩) (cell_some_lt v6)).trans v6)
      have u6 : w.cell? ⟨bq, oq + k * 13 + 6, none⟩ = some (.int .u64 (im : Int)) := hcy 6 (by omega)
      have u6 := Sub.cell ((hbr.out.cell (p := ⟨bq, oq + k * 13 + 6, none⟩) (cell_some_lt u6)).trans u6)
      have v7 : w.cell? ⟨bk, of + k * 13 + 7, none⟩ = some (.int .i64 ba) := hcx 7 (by omega)
      have v7 := Sub.cell ((hbr.out.cell (p := ⟨bk, of + k * 13 + 7, none⟩) (cell_some_lt v7)).trans v7)
      have u7 : w.cell? ⟨bq, oq + k * 13 + 7, none⟩ = some (.int .i64 ba) := hcy 7 (by omega)
      have u7 := Sub.cell ((hbr.out.cell (p := ⟨bq, oq + k * 13 + 7, none⟩) (cell_some_lt u7)).trans u7)
      have v8 : w.cell? ⟨bk, of + k * 13 + 8, none⟩ = some (.int .i64 ix) := hcx 8 (by omega)
      have v8 := Sub.cell ((hbr.out.cell (p := ⟨bk, of + k * 13 + 8, none⟩) (cell_some_lt v8)).trans v8)
      have u8 : w.cell? ⟨bq, oq + k * 13 + 8, none⟩ = some (.int .i64 ix) := hcy 8 (by omega)
      have u8 := Sub.cell ((hbr.out.cell (p := ⟨bq, oq + k * 13 + 8, none⟩) (cell_some_lt u8)).trans u8)
      have v9 : w.cell? ⟨bk, of + k * 13 + 9, none⟩ = some (.bool hb) := hcx 9 (by omega)
      have v9 := Sub.cell ((hbr.out.cell (p := ⟨bk, of + k * 13 + 9, none⟩) (cell_some_lt v9)).trans v9)
      have u9 : w.cell? ⟨bq, oq + k * 13 + 9, none⟩ = some (.bool hb) := hcy 9 (by omega)
      have u9 := Sub.cell ((hbr.out.cell (p := ⟨bq, oq + k * 13 + 9, none⟩) (cell_some_lt u9)).trans u9)
      have v10 : w.cell? ⟨bk, of + k * 13 + 10, none⟩ = some (.bool hi) := hcx 10 (by omega)
      have v10 := Sub.cell ((hbr.out.cell (p := ⟨bk, of + k * 13 + 10, none⟩) (cell_some_lt v10)).trans v10)
      have u10 : w.cell? ⟨bq, oq + k * 13 + 10, none⟩ = some (.bool hi) := hcy 10 (by omega)
      have u10 := Sub.cell ((hbr.out.cell (p := ⟨bq, oq + k * 13 + 10, none⟩) (cell_some_lt u10)).trans u10)
      have v11 : w.cell? ⟨bk, of + k * 13 + 11, none⟩ = some (.int .i64 dp) := hcx 11 (by omega)
      have v11 := Sub.cell ((hbr.out.cell (p := ⟨bk, of + k * 13 + 11, none⟩) (cell_some_lt v11)).trans v11)
      have u11 : w.cell? ⟨bq, oq + k * 13 + 11, none⟩ = some (.int .i64 dp) := hcy 11 (by omega)
      have u11 := Sub.cell ((hbr.out.cell (p := ⟨bq, oq + k * 13 + 11, none⟩) (cell_some_lt u11)).trans u11)
      have v12 : w.cell? ⟨bk, of + k * 13 + 12, none⟩ = some (.int .i64 lb) := hcx 12 (by omega)
      have v12 := Sub.cell ((hbr.out.cell (p := ⟨bk, of + k * 13 + 12, none⟩) (cell_some_lt v12)).trans v12)
      have u12 : w.cell? ⟨bq, oq + k * 13 + 12, none⟩ = some (.int .i64 lb) := hcy 12 (by omega)
      have u12 := Sub.cell ((hbr.out.cell (p := ⟨bq, oq + k * 13 + 12, none⟩) (cell_some_lt u12)).trans u12)
      rw [show (decide ((⟨op, bn, sh, cd, ds, sr, im, ba, ix, hb, hi, dp, lb⟩ : In) = ⟨op, bn, sh, cd, ds, sr, im, ba, ix, hb, hi, dp, lb⟩)) = true from decide_eq_true rfl] at hne
      clear hcx hcy
      go_wp2_with fail
      refine wp_region_below (by kernel_rfl) (by kernel_rfl) ?_
      repeat (first
        | (go_big_quiet_want; refine quiet_neq_agg 32 32 (.tmp 20) (.tmp 24) rfl (inC ⟨op, bn, sh, cd, ds, sr, im, ba, ix, hb, hi, dp, lb⟩) (inC ⟨op, bn, sh, cd, ds, sr, im, ba, ix, hb, hi, dp, lb⟩) _ rfl rfl guard32 hne.out ?_; simp [Act.put]; go_big_quiet_on)
        | go_big_quiet_step (fail))
      refine wpQuiet_nil ?_
      rintro _ ⟨⟨w3, hb3⟩, rfl⟩
      have hfin := Lib.hid (Below.next hbr.out hb3)
      clear hb3 v0 v1 v2 v3 v4 v5 v6 v7 v8 v9 v10 v11 v12 u0 u1 u2 u3 u4 u5 u6 u7 u8 u9 u10 u11 u12
      go_wp2
      go_roundg g2
      case measure => omega
      case rel => exact ⟨k + 1, by omega, by go_num, hfin.out⟩
end Go.Proofs.YtmimmnjdgpdjlaaGreatDoor
