/- DiskGrows: the walk, whatever the disk. -/
import Derived.Test.YthfmmkabfndbfaaDj
namespace Go.Proofs.Ythfmmkabfndbfaa
open Go.RowKit
set_option linter.unusedSimpArgs false
set_option linter.unusedVariables false
section
variable (da : ByteArray) (sy ca : Int) (dn : Bool) (fu : Int) (s : ByteArray) (size keep : Int) (w : World)

theorem extract_whole (b : ByteArray) (i j : Nat) (h : i = j) (hj : j ≤ b.size) : (b.extract 0 i).extract 0 j = b.extract 0 i := by
  subst h
  rw [ByteArray.extract_extract]
  simp

theorem grows6 : Calls Try.prog 6 #[.agg #[.string da, .int .i64 sy, .int .i64 ca, .bool dn, .int .i64 fu], .string s, .int .i64 size, .int .i64 keep] w fun e w' => e = .returned (.bool true) ∧ Below w.heap.size w w' := by
  cases hb : okB da sy ca with
  | false =>
    have r1 : doR ⟨da, sy, ca, dn, -1⟩ 1 s 0 = (Dk.zero, 6) := doR_bad _ _ _ _ hb
    exact grows_bad da sy ca dn fu s size keep w (ReadAt.mk (d := ⟨da, sy, ca, dn, -1⟩) (by simp [readS, hb]) (by simp [readE, hb])) (DoAt.mk (d := ⟨da, sy, ca, dn, -1⟩) r1 (by decide) (by simp))
  | true =>
    cases dn with
    | true =>
      have r1 : doR ⟨da, sy, ca, true, -1⟩ 1 s 0 = (⟨da, sy, ca, true, -1⟩, 12) := by simp [doR, hb]
      exact grows_down da sy ca fu s size keep w (ReadAt.mk (d := ⟨da, sy, ca, true, -1⟩) (by simp [readS, hb]) (by simp [readE, hb])) (DoAt.mk (d := ⟨da, sy, ca, true, -1⟩) r1 (by decide) (by simp))
    | false =>
      obtain ⟨g1, g2, g3, g4, g5⟩ := okB_true hb
      have R1 : ReadAt da sy ca false (-1) da 0 := ReadAt.mk (d := ⟨da, sy, ca, false, -1⟩) (by simp [readS, hb]) (by simp [readE, hb])
      have hkep : 0 ≤ kept ⟨da, sy, ca, false, -1⟩ keep ∧ kept ⟨da, sy, ca, false, -1⟩ keep ≤ (da.size : Int) := by unfold kept; simp only; omega
      obtain ⟨K, hK⟩ : ∃ K, kept ⟨da, sy, ca, false, -1⟩ keep = K := ⟨_, rfl⟩
      rw [hK] at hkep
      have C3 : CrashAt da sy ca false (-1) keep (da.extract 0 K.toNat) K ca false (-1) 0 := CrashAt.mk (d := ⟨da, sy, ca, false, -1⟩) (a := ⟨da.extract 0 K.toNat, K, ca, false, -1⟩) (by simp [crashR, hb, hK])
      have hsz : ((da.extract 0 K.toNat).size : Int) = K := by simp; omega
      have hb2 : okB (da.extract 0 K.toNat) K ca = true := okB_mk g1 g2 (by omega) (by omega) (by omega)
      have hK2 : kept ⟨da.extract 0 K.toNat, K, ca, false, -1⟩ 0 = K := by unfold kept; simp only; omega
      have C4 : CrashAt (da.extract 0 K.toNat) K ca false (-1) 0 (da.extract 0 K.toNat) K ca false (-1) 0 := CrashAt.mk (d := ⟨da.extract 0 K.toNat, K, ca, false, -1⟩) (a := ⟨da.extract 0 K.toNat, K, ca, false, -1⟩) (by simp [crashR, hb2, hK2, extract_whole, hkep])
      by_cases hs : ca - (da.size : Int) < (s.size : Int)
      · have r1 : doR ⟨da, sy, ca, false, -1⟩ 1 s 0 = (⟨da, sy, ca, false, -1⟩, 8) := by simp [doR, hb, hs]
        have C1 := DoAt.mk (d := ⟨da, sy, ca, false, -1⟩) r1 (by decide) (by simp)
        by_cases hz : size < 0 ∨ (da.size : Int) < size
        · have r2 : doR ⟨da, sy, ca, false, -1⟩ 3 ⟨#[]⟩ size = (⟨da, sy, ca, false, -1⟩, 2) := by simp [doR, hb, hz]
          exact grows_fn da sy ca fu s size keep w (by omega) R1 C1 (DoAt.mk (d := ⟨da, sy, ca, false, -1⟩) r2 (by decide) (by simp)) _ _ _ C3 C4
        · have r2 : doR ⟨da, sy, ca, false, -1⟩ 3 ⟨#[]⟩ size = (⟨da.extract 0 size.toNat, size, ca, false, -1⟩, 0) := by simp [doR, hb, hz, dec]
          exact grows_fc da sy ca fu s size keep w (by omega) R1 C1 (by omega) (by omega) (DoAt.mk (d := ⟨da, sy, ca, false, -1⟩) r2 (by decide) (by simp)) _ _ _ C3 C4
      · have r1 : doR ⟨da, sy, ca, false, -1⟩ 1 s 0 = (⟨da ++ s, sy, ca, false, -1⟩, 0) := by simp [doR, hb, hs, dec]
        have C1 := DoAt.mk (d := ⟨da, sy, ca, false, -1⟩) r1 (by decide) (by simp)
        have hb3 : okB (da ++ s) sy ca = true := okB_mk g1 g2 (by simp; omega) g4 (by simp; omega)
        have R2 : ReadAt (da ++ s) sy ca false (-1) (da ++ s) 0 := ReadAt.mk (d := ⟨da ++ s, sy, ca, false, -1⟩) (by simp [readS, hb3]) (by simp [readE, hb3])
        by_cases hz : size < 0 ∨ (da.size : Int) < size
        · have r2 : doR ⟨da, sy, ca, false, -1⟩ 3 ⟨#[]⟩ size = (⟨da, sy, ca, false, -1⟩, 2) := by simp [doR, hb, hz]
          exact grows_wn da sy ca fu s size keep w (by omega) R1 (by omega) C1 R2 (DoAt.mk (d := ⟨da, sy, ca, false, -1⟩) r2 (by decide) (by simp)) _ _ _ C3 C4
        · have r2 : doR ⟨da, sy, ca, false, -1⟩ 3 ⟨#[]⟩ size = (⟨da.extract 0 size.toNat, size, ca, false, -1⟩, 0) := by simp [doR, hb, hz, dec]
          exact grows_wc da sy ca fu s size keep w (by omega) R1 (by omega) C1 R2 (by omega) (by omega) (DoAt.mk (d := ⟨da, sy, ca, false, -1⟩) r2 (by decide) (by simp)) _ _ _ C3 C4

end
end Go.Proofs.Ythfmmkabfndbfaa
