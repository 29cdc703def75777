/- DiskFuse: the walk. -/
import Derived.Test.YthfmmkabfndbfaaDj
namespace Go.Proofs.Ythfmmkabfndbfaa
open Go.RowKit
set_option linter.unusedSimpArgs false
set_option linter.unusedVariables false

theorem okE : okB ⟨#[]⟩ 0 1000 = true := by kernel_rfl
theorem fuse_on (g : Int) (h : 0 < g) (hg : g ≤ 255) : DoAt ⟨#[]⟩ 0 1000 false g 2 ⟨#[]⟩ 0 ⟨#[]⟩ 0 1000 false (g - 1) 0 := by
  have h0 : ¬ (g = 0) := by omega
  have r : doR ⟨⟨#[]⟩, 0, 1000, false, g⟩ 2 ⟨#[]⟩ 0 = (⟨⟨#[]⟩, 0, 1000, false, g - 1⟩, 0) := by
    simp [doR, okE, h0, dec, h]
    rfl
  exact DoAt.mk (d := ⟨⟨#[]⟩, 0, 1000, false, g⟩) r (by decide) (by simp only; omega)
theorem fuse_out : DoAt ⟨#[]⟩ 0 1000 false 0 2 ⟨#[]⟩ 0 ⟨#[]⟩ 0 1000 true 0 12 :=
  DoAt.mk (d := ⟨⟨#[]⟩, 0, 1000, false, 0⟩) (a := ⟨⟨#[]⟩, 0, 1000, true, 0⟩) (by simp [doR, okE]) (by decide) (by simp)
theorem fuse_off : DoAt ⟨#[]⟩ 0 1000 true 0 2 ⟨#[]⟩ 0 ⟨#[]⟩ 0 1000 true 0 12 :=
  DoAt.mk (d := ⟨⟨#[]⟩, 0, 1000, true, 0⟩) (a := ⟨⟨#[]⟩, 0, 1000, true, 0⟩) (by simp [doR, okE]) (by decide) (by simp)
theorem fuse_crash (dn : Bool) (g : Int) : CrashAt ⟨#[]⟩ 0 1000 dn g 0 ⟨#[]⟩ 0 1000 false (-1) 0 :=
  CrashAt.mk (d := ⟨⟨#[]⟩, 0, 1000, dn, g⟩) (a := ⟨⟨#[]⟩, 0, 1000, false, -1⟩) (by simp [crashR, okE, kept]; exact ⟨rfl, rfl⟩)
theorem fuse_write : DoAt ⟨#[]⟩ 0 1000 false (-1) 1 ⟨#[120]⟩ 0 ⟨#[120]⟩ 0 1000 false (-1) 0 :=
  DoAt.mk (d := ⟨⟨#[]⟩, 0, 1000, false, -1⟩) (a := ⟨⟨#[120]⟩, 0, 1000, false, -1⟩) (by kernel_rfl) (by decide) (by simp)

/-- the disk behind i rounds -/
abbrev fzo (dn : Bool) (g : Int) : Obj := .cells #[.string ⟨#[]⟩, .int .i64 0, .int .i64 1000, .bool dn, .int .i64 g] 23 (0, 0)
def Fz (f i : Nat) (o : Option Obj) : Prop := (i ≤ f ∧ o = some (fzo false ((f : Int) - i))) ∨ (f < i ∧ o = some (fzo true 0))

set_option maxHeartbeats 8000000 in
set_option maxRecDepth 100000 in
theorem fuse7 (f : Nat) (many : Int) (w : World) (hf : f ≤ 255) :
    Calls Try.prog 7 #[.int .u8 (f : Int), .int .i64 many] w fun e w' => e = .returned (.bool true) ∧ Below w.heap.size w w' := by
  go_enter Try.func7, Try.ntmps7
  go_wp2_with fail
  refine (lives14 _).mono ?_
  rintro e w1 ⟨rfl, hb⟩
  have hD0 := below_call0 (B := w.heap.size) (Below.refl w.heap.size w) (Nat.le_refl _) hb
  clear hb
  go_wp2_with fail
  have hT0 := heap_last w1 (fzo false (f : Int))
  have hBw := hD0.size
  replace hD0 := hD0.alloc hD0.size (fzo false (f : Int))
  generalize w1.heap.size = B at *
  generalize w1.alloc (fzo false (f : Int)) = w2 at *
  go_loopw [6] (fun i wr => ∃ k : Nat, k ≤ 300 ∧ i = .int .i64 k ∧ Fz f k wr.heap[B]? ∧ Below w.heap.size w wr) (fun i _ => 300 - (intOf i).toNat)
  case atStart => exact ⟨0, by omega, rfl, Or.inl ⟨by omega, by simpa using hT0⟩, hD0⟩
  case round =>
    obtain ⟨k, hk, rfl, hF, hD⟩ := hrel
    by_cases h1 : (k : Int) < many ∧ k < 300
    · obtain ⟨h1, h2⟩ := h1
      rcases hF with ⟨hkf, hF⟩ | ⟨hkf, hF⟩
      · by_cases hlt : k < f
        · have hT : wr.heap[B]? = some (fzo false ((f : Int) - k)) := hF
          clear hF
          have lT := lt_of_block hT
          obtain ⟨t0, t1, t2, t3, t4, t5⟩ := cells5 hT
          have q1 : decide ((k : Int) < (f : Int)) = true := by simp; omega
          go_wp2_with fail
          go_cut [7, 8] (fun s11 s12 wx => s12 = .int .i64 (0) ∧ Below w.heap.size w wx ∧ wx.heap[B]? = some (.cells #[.string ⟨#[]⟩, .int .i64 0, .int .i64 1000, .bool false, .int .i64 ((f : Int) - k)] 23 (0, 0)) ∧ ∃ g : Nat, s11 = .pointer (some ⟨g, 0, none⟩) ∧ B < g ∧ wx.heap[g]? = some (.cells #[.string ⟨#[]⟩, .int .i64 0, .int .i64 1000, .bool false, .int .i64 ((f : Int) - k - 1)] 23 (0, 0)))
          case first =>
            go_region_with (first | (go_at_call 18; refine (sync18 _).mono ?_; rintro e w3 ⟨rfl, rfl⟩) | (go_at_call 8; refine (fuse_on ((f : Int) - k) (by omega) (by omega) _).mono ?_; rintro e w4 ⟨rfl, hb⟩; obtain ⟨hc4, hf4⟩ := bcell hb))
            all_goals (go_wp2_with fail; go_meet)
            all_goals (have hd4 : Below w.heap.size w w4 := (by refine Below.trans ?_ (hb.mono (by simp; omega)); repeat (first | with_reducible exact hD | with_reducible refine Below.drew ?_ | refine Below.alloc ?_ (by first | omega | (simp; omega)) _)))
            all_goals (have ht4 : w4.heap[B]? = _ := blk hb (by first | with_reducible exact drewH (blk_alloc hT) | with_reducible exact drewH (blk_alloc (blk_alloc hT))))
            all_goals (have l4 : B < w4.heap.size := lt_of_block ht4)
            all_goals (refine ⟨rfl, ?_, ?_, _, rfl, ?_, ?_⟩)
            all_goals first
              | with_reducible exact hd4.alloc hd4.size _
              | with_reducible exact below_set5 hd4 (by omega)
              | with_reducible exact blk_alloc ht4
              | with_reducible exact blk_set5 ht4 (by omega)
              | with_reducible exact heap_last _ _
              | omega
              | (with_reducible refine set5 (a0 := .string ⟨#[]⟩) (a1 := .int .i64 0) (a2 := .int .i64 0) (a3 := .bool false) (a4 := .int .i64 0) ?_; first | with_reducible exact blk hb (drewH (heap_last _ _)) | with_reducible exact blk hb (drewH (blk_alloc (heap_last _ _))) | with_reducible exact blk hb (drewH (heap_last1 _ _ _)))
          case rest =>
            obtain ⟨rfl, hX, hT2, g, rfl, hg, hA⟩ := hcut
            clear hD hT t0 t1 t2 t3 t4 t5 lT
            have lT := lt_of_block hT2
            have lA := lt_of_block hA
            obtain ⟨t0, t1, t2, t3, t4, t5⟩ := cells5 hT2
            obtain ⟨a0, a1, a2, a3, a4, a5⟩ := cells5 hA
            go_wp2
            exact ⟨⟨k + 1, by omega, by go_num, Or.inl ⟨by omega, (set5 hT2).trans (by rw [show (f : Int) - k - 1 = (f : Int) - (k + 1 : Nat) from by omega])⟩, below_set5 hX (by omega)⟩, by simp [intOf]; omega⟩
        · have hT : wr.heap[B]? = some (fzo false (0)) := by rw [hF, show (f : Int) - k = 0 from by omega]
          clear hF
          have lT := lt_of_block hT
          obtain ⟨t0, t1, t2, t3, t4, t5⟩ := cells5 hT
          have q1 : decide ((k : Int) < (f : Int)) = false := by simp; omega
          go_wp2_with fail
          go_cut [7, 8] (fun s11 s12 wx => s12 = .int .i64 (12) ∧ Below w.heap.size w wx ∧ wx.heap[B]? = some (.cells #[.string ⟨#[]⟩, .int .i64 0, .int .i64 1000, .bool false, .int .i64 (0)] 23 (0, 0)) ∧ ∃ g : Nat, s11 = .pointer (some ⟨g, 0, none⟩) ∧ B < g ∧ wx.heap[g]? = some (.cells #[.string ⟨#[]⟩, .int .i64 0, .int .i64 1000, .bool true, .int .i64 (0)] 23 (0, 0)))
          case first =>
            go_region_with (first | (go_at_call 18; refine (sync18 _).mono ?_; rintro e w3 ⟨rfl, rfl⟩) | (go_at_call 8; refine (fuse_out _).mono ?_; rintro e w4 ⟨rfl, hb⟩; obtain ⟨hc4, hf4⟩ := bcell hb))
            all_goals (go_wp2_with fail; go_meet)
            all_goals (have hd4 : Below w.heap.size w w4 := (by refine Below.trans ?_ (hb.mono (by simp; omega)); repeat (first | with_reducible exact hD | with_reducible refine Below.drew ?_ | refine Below.alloc ?_ (by first | omega | (simp; omega)) _)))
            all_goals (have ht4 : w4.heap[B]? = _ := blk hb (by first | with_reducible exact drewH (blk_alloc hT) | with_reducible exact drewH (blk_alloc (blk_alloc hT))))
            all_goals (have l4 : B < w4.heap.size := lt_of_block ht4)
            all_goals (refine ⟨rfl, ?_, ?_, _, rfl, ?_, ?_⟩)
            all_goals first
              | with_reducible exact hd4.alloc hd4.size _
              | with_reducible exact below_set5 hd4 (by omega)
              | with_reducible exact blk_alloc ht4
              | with_reducible exact blk_set5 ht4 (by omega)
              | with_reducible exact heap_last _ _
              | omega
              | (with_reducible refine set5 (a0 := .string ⟨#[]⟩) (a1 := .int .i64 0) (a2 := .int .i64 0) (a3 := .bool false) (a4 := .int .i64 0) ?_; first | with_reducible exact blk hb (drewH (heap_last _ _)) | with_reducible exact blk hb (drewH (blk_alloc (heap_last _ _))) | with_reducible exact blk hb (drewH (heap_last1 _ _ _)))
          case rest =>
            obtain ⟨rfl, hX, hT2, g, rfl, hg, hA⟩ := hcut
            clear hD hT t0 t1 t2 t3 t4 t5 lT
            have lT := lt_of_block hT2
            have lA := lt_of_block hA
            obtain ⟨t0, t1, t2, t3, t4, t5⟩ := cells5 hT2
            obtain ⟨a0, a1, a2, a3, a4, a5⟩ := cells5 hA
            go_wp2
            exact ⟨⟨k + 1, by omega, by go_num, Or.inr ⟨by omega, set5 hT2⟩, below_set5 hX (by omega)⟩, by simp [intOf]; omega⟩
      · have hT : wr.heap[B]? = some (fzo true (0)) := hF
        clear hF
        have lT := lt_of_block hT
        obtain ⟨t0, t1, t2, t3, t4, t5⟩ := cells5 hT
        have q1 : decide ((k : Int) < (f : Int)) = false := by simp; omega
        go_wp2_with fail
        go_cut [7, 8] (fun s11 s12 wx => s12 = .int .i64 (12) ∧ Below w.heap.size w wx ∧ wx.heap[B]? = some (.cells #[.string ⟨#[]⟩, .int .i64 0, .int .i64 1000, .bool true, .int .i64 (0)] 23 (0, 0)) ∧ ∃ g : Nat, s11 = .pointer (some ⟨g, 0, none⟩) ∧ B < g ∧ wx.heap[g]? = some (.cells #[.string ⟨#[]⟩, .int .i64 0, .int .i64 1000, .bool true, .int .i64 (0)] 23 (0, 0)))
        case first =>
          go_region_with (first | (go_at_call 18; refine (sync18 _).mono ?_; rintro e w3 ⟨rfl, rfl⟩) | (go_at_call 8; refine (fuse_off _).mono ?_; rintro e w4 ⟨rfl, hb⟩; obtain ⟨hc4, hf4⟩ := bcell hb))
          all_goals (go_wp2_with fail; go_meet)
          all_goals (have hd4 : Below w.heap.size w w4 := (by refine Below.trans ?_ (hb.mono (by simp; omega)); repeat (first | with_reducible exact hD | with_reducible refine Below.drew ?_ | refine Below.alloc ?_ (by first | omega | (simp; omega)) _)))
          all_goals (have ht4 : w4.heap[B]? = _ := blk hb (by first | with_reducible exact drewH (blk_alloc hT) | with_reducible exact drewH (blk_alloc (blk_alloc hT))))
          all_goals (have l4 : B < w4.heap.size := lt_of_block ht4)
          all_goals (refine ⟨rfl, ?_, ?_, _, rfl, ?_, ?_⟩)
          all_goals first
            | with_reducible exact hd4.alloc hd4.size _
            | with_reducible exact below_set5 hd4 (by omega)
            | with_reducible exact blk_alloc ht4
            | with_reducible exact blk_set5 ht4 (by omega)
            | with_reducible exact heap_last _ _
            | omega
            | (with_reducible refine set5 (a0 := .string ⟨#[]⟩) (a1 := .int .i64 0) (a2 := .int .i64 0) (a3 := .bool false) (a4 := .int .i64 0) ?_; first | with_reducible exact blk hb (drewH (heap_last _ _)) | with_reducible exact blk hb (drewH (blk_alloc (heap_last _ _))) | with_reducible exact blk hb (drewH (heap_last1 _ _ _)))
        case rest =>
          obtain ⟨rfl, hX, hT2, g, rfl, hg, hA⟩ := hcut
          clear hD hT t0 t1 t2 t3 t4 t5 lT
          have lT := lt_of_block hT2
          have lA := lt_of_block hA
          obtain ⟨t0, t1, t2, t3, t4, t5⟩ := cells5 hT2
          obtain ⟨a0, a1, a2, a3, a4, a5⟩ := cells5 hA
          go_wp2
          exact ⟨⟨k + 1, by omega, by go_num, Or.inr ⟨by omega, set5 hT2⟩, below_set5 hX (by omega)⟩, by simp [intOf]; omega⟩
    · obtain ⟨dn, g, hT⟩ : ∃ dn g, wr.heap[B]? = some (fzo dn g) := by
        rcases hF with ⟨_, hF⟩ | ⟨_, hF⟩
        · exact ⟨_, _, hF⟩
        · exact ⟨_, _, hF⟩
      clear hF hT0 hD0
      have lT := lt_of_block hT
      obtain ⟨t0, t1, t2, t3, t4, t5⟩ := cells5 hT
      have q : decide ((k : Int) < many) = false ∨ (decide ((k : Int) < many) = true ∧ decide ((k : Int) < 300) = false) := by
        by_cases h : (k : Int) < many
        · exact Or.inr ⟨by simp; omega, by simp; omega⟩
        · exact Or.inl (by simp; omega)
      clear h1
      rcases q with q1 | ⟨q1, q2⟩
      all_goals
        go_wp2_with fail
        refine (fuse_crash dn g _).mono ?_
        rintro e w5 ⟨rfl, hb⟩
        replace hD := below_call0 hD hD.size hb
        clear hb t0 t1 t2 t3 t4 t5 lT hT q1
        have hT := heap_last w5 (fzo false (-1))
        have hwC := hD.size
        replace hD := hD.alloc hD.size (fzo false (-1))
        go_wp2_with fail
        obtain ⟨C, hC⟩ : ∃ C, C = w5.heap.size := ⟨_, rfl⟩
        generalize w5.alloc (fzo false (-1)) = w6 at *
        rw [← hC] at hT hwC
        rw [← hC]
        clear hC
        have lT := lt_of_block hT
        obtain ⟨t0, t1, t2, t3, t4, t5⟩ := cells5 hT
        go_cut [11, 12] (fun s11 s12 wx => s12 = .int .i64 (0) ∧ Below w.heap.size w wx ∧ wx.heap[C]? = some (.cells #[.string ⟨#[]⟩, .int .i64 0, .int .i64 1000, .bool false, .int .i64 (-1)] 23 (0, 0)) ∧ ∃ g : Nat, s11 = .pointer (some ⟨g, 0, none⟩) ∧ C < g ∧ wx.heap[g]? = some (.cells #[.string ⟨#[120]⟩, .int .i64 0, .int .i64 1000, .bool false, .int .i64 (-1)] 23 (0, 0)))
        case first =>
          go_region_with (first | (go_at_call 17; refine (write17 _ _).mono ?_; rintro e w3 ⟨rfl, rfl⟩) | (go_at_call 8; refine (fuse_write _).mono ?_; rintro e w4 ⟨rfl, hb⟩; obtain ⟨hc4, hf4⟩ := bcell hb))
          all_goals (go_wp2_with fail; go_meet)
          all_goals (have hd4 : Below w.heap.size w w4 := (by refine Below.trans ?_ (hb.mono (by simp; omega)); repeat (first | with_reducible exact hD | with_reducible refine Below.drew ?_ | refine Below.alloc ?_ (by first | omega | (simp; omega)) _)))
          all_goals (have ht4 : w4.heap[C]? = _ := blk hb (by first | with_reducible exact drewH (blk_alloc hT) | with_reducible exact drewH (blk_alloc (blk_alloc hT))))
          all_goals (have l4 : C < w4.heap.size := lt_of_block ht4)
          all_goals (refine ⟨rfl, ?_, ?_, _, rfl, ?_, ?_⟩)
          all_goals first
            | with_reducible exact hd4.alloc hd4.size _
            | with_reducible exact below_set5 hd4 (by omega)
            | with_reducible exact blk_alloc ht4
            | with_reducible exact blk_set5 ht4 (by omega)
            | with_reducible exact heap_last _ _
            | omega
            | (with_reducible refine set5 (a0 := .string ⟨#[]⟩) (a1 := .int .i64 0) (a2 := .int .i64 0) (a3 := .bool false) (a4 := .int .i64 0) ?_; first | with_reducible exact blk hb (drewH (heap_last _ _)) | with_reducible exact blk hb (drewH (blk_alloc (heap_last _ _))) | with_reducible exact blk hb (drewH (heap_last1 _ _ _)))
        case rest =>
          obtain ⟨rfl, hX, hT2, g2, rfl, hg, hA⟩ := hcut
          have lA := lt_of_block hA
          obtain ⟨a0, a1, a2, a3, a4, a5⟩ := cells5 hA
          go_wp2
          go_ret
          exact ⟨rfl, hX⟩
end Go.Proofs.Ythfmmkabfndbfaa
