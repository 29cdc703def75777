/- DiskSafe: the walk. -/
import Derived.Test.YthfmmkabfndbfaaDj
namespace Go.Proofs.Ythfmmkabfndbfaa
open Go.RowKit
set_option linter.unusedSimpArgs false
set_option linter.unusedVariables false

/-! ### plain: what Do keeps -/
theorem doR_safe (d : Dk) (k : Int) (sd : ByteArray) (sz : Int) (h : okB d.da d.sy d.ca = true) (hu : d.fu ≤ 9223372036854775807) :
    okB (doR d k sd sz).1.da (doR d k sd sz).1.sy (doR d k sd sz).1.ca = true ∧ ((doR d k sd sz).2 = 0 → d.dn = false) ∧ ((doR d k sd sz).2 = 12 → (doR d k sd sz).1.dn = true) ∧ (doR d k sd sz).1.fu ≤ 9223372036854775807 := by
  obtain ⟨da, sy, ca, dn, fu⟩ := d
  obtain ⟨g1, g2, g3, g4, g5⟩ := okB_true h
  simp only at g1 g2 g3 g4 g5
  have hdec : dec fu ≤ 9223372036854775807 := by unfold dec; simp only at hu; split <;> omega
  unfold doR
  simp only at h hu ⊢
  rw [if_neg (by simp [h])]
  by_cases ht : k = 0 ∨ 4 ≤ k
  · rw [if_pos ht]; exact ⟨h, by simp, by simp, hu⟩
  rw [if_neg ht]
  cases dn with
  | true => rw [if_pos rfl]; exact ⟨h, by simp, by simp, hu⟩
  | false =>
    rw [if_neg (by simp)]
    by_cases h1 : k = 1
    · rw [if_pos h1]
      by_cases h2 : ca - (da.size : Int) < (sd.size : Int)
      · rw [if_pos h2]; exact ⟨h, by simp, by simp, hu⟩
      rw [if_neg h2]
      by_cases h3 : fu = 0
      · rw [if_pos h3]; exact ⟨okB_mk g1 g2 (by simp; omega) g4 (by simp; omega), by simp, by simp, by simp⟩
      · rw [if_neg h3]; exact ⟨okB_mk g1 g2 (by simp; omega) g4 (by simp; omega), by simp, by simp, hdec⟩
    rw [if_neg h1]
    by_cases h2 : k = 2
    · rw [if_pos h2]
      by_cases h3 : fu = 0
      · rw [if_pos h3]; exact ⟨h, by simp, by simp, by simp⟩
      · rw [if_neg h3]; exact ⟨okB_mk g1 g2 g3 (by simp only; omega) (by simp only; omega), by simp, by simp, hdec⟩
    rw [if_neg h2]
    by_cases h3 : sz < 0 ∨ (da.size : Int) < sz
    · rw [if_pos h3]; exact ⟨h, by simp, by simp, hu⟩
    rw [if_neg h3]
    by_cases h4 : fu = 0
    · rw [if_pos h4]; exact ⟨h, by simp, by simp, by simp⟩
    · rw [if_neg h4]; exact ⟨okB_mk g1 g2 (by simp; omega) (by simp only; omega) (by simp; omega), by simp, by simp, hdec⟩

/-- a slice of steps, as it lies in memory -/
def Steps (w : World) (v : Value) (n : Nat) (ks : Nat → Int) (ss : Nat → ByteArray) (zs : Nat → Int) : Prop :=
  ((∃ a cap, v = .slice a 0 cap) ∧ n = 0) ∨ ∃ (b off cap : Nat), v = .slice (some ⟨b, off, none⟩) n cap ∧ n ≤ cap ∧ n ≤ 9223372036854775807 ∧
    ∀ i, i < n → w.cell? ⟨b, off + i * 3, none⟩ = some (.int .u8 (ks i)) ∧ w.cell? ⟨b, off + i * 3 + 1, none⟩ = some (.string (ss i)) ∧ w.cell? ⟨b, off + i * 3 + 2, none⟩ = some (.int .i64 (zs i)) ∧ 0 ≤ ks i

theorem DoAt.any (d : Dk) (k : Int) (sd : ByteArray) (sz : Int) (hk : 0 ≤ k) (hu : d.fu ≤ 9223372036854775807) :
    DoAt d.da d.sy d.ca d.dn d.fu k sd sz (doR d k sd sz).1.da (doR d k sd sz).1.sy (doR d k sd sz).1.ca (doR d k sd sz).1.dn (doR d k sd sz).1.fu (doR d k sd sz).2 := DoAt.mk rfl hk hu

set_option maxHeartbeats 8000000 in
set_option maxRecDepth 100000 in
/-- a room that is no room -/
theorem safe_bad (room fuse keep : Int) (v : Value) (w : World) (h : errB (okB ⟨#[]⟩ 0 room) = 6) (h1 : room < 0 ∨ 262144 < room) :
    Calls Try.prog 4 #[.int .i64 room, .int .i64 fuse, v, .int .i64 keep] w fun e w' => e = .returned (.bool true) ∧ Below w.heap.size w w' := by
  have H := Lib.hid h
  clear h
  by_cases h0 : room < 0
  · have q : decide (room < 0) = true := by simp; omega
    clear h1 h0
    go_enter Try.func4, Try.ntmps4
    go_wp2_with fail
    refine (lives14 _).mono ?_
    rintro e w1 ⟨rfl, hb⟩
    have hD := below_call0 (B := w.heap.size) (Below.refl w.heap.size w) (Nat.le_refl _) hb
    clear hb
    go_wp2_with fail
    refine (check15_at _ H.out).mono ?_
    rintro e w2 ⟨rfl, hb⟩
    replace hD := below_call hD hD.size hb
    clear hb
    go_wp2
    go_ret
    exact ⟨rfl, hD⟩
  · have q : decide (room < 0) = false := by simp; omega
    have q2 : decide (262144 < room) = true := by simp; omega
    clear h1 h0
    go_enter Try.func4, Try.ntmps4
    go_wp2_with fail
    refine (lives14 _).mono ?_
    rintro e w1 ⟨rfl, hb⟩
    have hD := below_call0 (B := w.heap.size) (Below.refl w.heap.size w) (Nat.le_refl _) hb
    clear hb
    go_wp2_with fail
    refine (check15_at _ H.out).mono ?_
    rintro e w2 ⟨rfl, hb⟩
    replace hD := below_call hD hD.size hb
    clear hb
    go_wp2
    go_ret
    exact ⟨rfl, hD⟩

theorem keepC {W w' : World} {b o : Nat} {v : Value} (hb : Below W.heap.size W w') (h : W.cell? ⟨b, o, none⟩ = some v) : w'.cell? ⟨b, o, none⟩ = some v := by
  have hlt : b < W.heap.size := by
    rcases Nat.lt_or_ge b W.heap.size with h' | h'
    · exact h'
    · simp [World.cell?, Array.getElem?_eq_none h'] at h
  exact (hb.cell (p := ⟨b, o, none⟩) hlt).trans h
theorem cellOld {W w1 : World} {b o : Nat} {v : Value} (hb : Below W.heap.size W w1) (h : W.cell? ⟨b, o, none⟩ = some v) : w1.cell? ⟨b, o, none⟩ = some v := by
  have hlt : b < W.heap.size := by
    rcases Nat.lt_or_ge b W.heap.size with h' | h'
    · exact h'
    · simp [World.cell?, Array.getElem?_eq_none h'] at h
  exact (hb.cell (p := ⟨b, o, none⟩) hlt).trans h
theorem cell_lt {W : World} {b o : Nat} {v : Value} (h : W.cell? ⟨b, o, none⟩ = some v) : b < W.heap.size := by
  rcases Nat.lt_or_ge b W.heap.size with h' | h'
  · exact h'
  · simp [World.cell?, Array.getElem?_eq_none h'] at h

set_option maxHeartbeats 8000000 in
set_option maxRecDepth 100000 in
theorem safe_ok (room fuse keep : Int) (v : Value) (n : Nat) (ks : Nat → Int) (ss : Nat → ByteArray) (zs : Nat → Int) (w : World) (h : errB (okB ⟨#[]⟩ 0 room) = 0) (hu : fuse ≤ 9223372036854775807)
    (b off cap : Nat) (hv : v = .slice (some ⟨b, off, none⟩) n cap) (hnc : n ≤ cap) (hn : n ≤ 9223372036854775807)
    (hc : ∀ i, i < n → w.cell? ⟨b, off + i * 3, none⟩ = some (.int .u8 (ks i)) ∧ w.cell? ⟨b, off + i * 3 + 1, none⟩ = some (.string (ss i)) ∧ w.cell? ⟨b, off + i * 3 + 2, none⟩ = some (.int .i64 (zs i)) ∧ 0 ≤ ks i) :
    Calls Try.prog 4 #[.int .i64 room, .int .i64 fuse, v, .int .i64 keep] w fun e w' => e = .returned (.bool true) ∧ Below w.heap.size w w' := by
  subst hv
  have hok : okB ⟨#[]⟩ 0 room = true := by
    cases hb : okB ⟨#[]⟩ 0 room with
    | true => rfl
    | false => rw [hb] at h; simp [errB] at h
  have H := Lib.hid h
  have HC := Lib.hid hc
  have HK := Lib.hid hok
  have HU := Lib.hid hu
  clear h hc hok hu
  go_enter Try.func4, Try.ntmps4
  go_wp2_with fail
  refine (lives14 _).mono ?_
  rintro e w1 ⟨rfl, hb⟩
  have hD := below_call0 (B := w.heap.size) (Below.refl w.heap.size w) (Nat.le_refl _) hb
  clear hb
  go_wp2_with fail
  refine (check15_at _ H.out).mono ?_
  rintro e w2 ⟨rfl, hb⟩
  have hT0 := blk hb (heap_last w1 _)
  have hBw := hD.size
  replace hD := below_call hD hD.size hb
  clear hb
  go_wp2_with fail
  generalize w1.heap.size = B at *
  go_loopw [32] (fun i wr => ∃ (k : Nat) (d : Dk), k ≤ n ∧ i = .int .i64 k ∧ wr.heap[B]? = some d.o ∧ okB d.da d.sy d.ca = true ∧ d.fu ≤ 9223372036854775807 ∧ Below w.heap.size w wr) (fun i _ => n - (intOf i).toNat)
  case atStart => exact ⟨0, ⟨⟨#[]⟩, 0, room, false, fuse⟩, by omega, rfl, hT0, HK.out, HU.out, hD⟩
  case round =>
    clear hD hT0
    obtain ⟨k, ⟨da, sy, ca, dn, fu⟩, hk, rfl, hT, hok, hfu, hD⟩ := hrel
    simp only at hT hok hfu
    by_cases hlt : k < n
    · obtain ⟨x0, x1, x2, x3⟩ := HC.out k hlt
      have C := DoAt.any ⟨da, sy, ca, dn, fu⟩ (ks k) (ss k) (zs k) x3 hfu
      obtain ⟨s1, s2, s3, s4⟩ := doR_safe ⟨da, sy, ca, dn, fu⟩ (ks k) (ss k) (zs k) hok hfu
      simp only at C s2
      generalize doR ⟨da, sy, ca, dn, fu⟩ (ks k) (ss k) (zs k) = r at *
      obtain ⟨⟨ada, asy, aca, adn, afu⟩, ae⟩ := r
      simp only at C s1 s2 s3 s4
      generalize ks k = kk at *
      generalize ss k = sk at *
      generalize zs k = zk at *
      have y0 := cellOld hD x0
      have y1 := cellOld hD x1
      have y2 := cellOld hD x2
      have ly := cell_lt y0
      have lT := lt_of_block hT
      have L1 := Lib.hid hok; have L2 := Lib.hid hfu; have L3 := Lib.hid s1; have L4 := Lib.hid s4; have L5 := Lib.hid s2; have L6 := Lib.hid s3
      clear hok hfu s1 s2 s3 s4 x0 x1 x2 x3
      obtain ⟨t0, t1, t2, t3, t4, t5⟩ := cells5 hT
      go_wp2_with fail
      refine (C _).mono ?_
      rintro e w3 ⟨rfl, hb⟩
      replace hD := below_call hD hD.size hb
      replace hT := blk hb (blk_alloc hT)
      have hA := heap_last w3 (.cells #[.string ada, .int .i64 asy, .int .i64 aca, .bool adn, .int .i64 afu] 23)
      clear hb t0 t1 t2 t3 t4 t5 y0 y1 y2 ly lT
      go_wp2_with fail
      refine (check15_at _ (show errB (okB ada asy aca) = 0 by rw [L3.out]; rfl)).mono ?_
      rintro e w4 ⟨rfl, hb⟩
      replace hD := below_call hD hD.size hb
      replace hT := blk hb (blk_alloc hT)
      replace hA := blk hb hA
      clear hb
      have lT := lt_of_block hT
      have lA := lt_of_block hA
      obtain ⟨t0, t1, t2, t3, t4, t5⟩ := cells5 hT
      obtain ⟨a0, a1, a2, a3, a4, a5⟩ := cells5 hA
      by_cases q : ae = 0
      · subst q
        obtain rfl : dn = false := L5.out rfl
        go_wp2
        exact ⟨⟨k + 1, ⟨ada, asy, aca, adn, afu⟩, by omega, by go_num, set5 hT, L3.out, L4.out, below_set5 hD (by omega)⟩, by simp [intOf]; omega⟩
      · by_cases q2 : ae = 12
        · subst q2
          obtain rfl : adn = true := L6.out rfl
          go_wp2
          exact ⟨⟨k + 1, ⟨ada, asy, aca, true, afu⟩, by omega, by go_num, set5 hT, L3.out, L4.out, below_set5 hD (by omega)⟩, by simp [intOf]; omega⟩
        · have e1 : (ae == 0) = false := by simp; omega
          have e2 : (ae == 12) = false := by simp; omega
          clear q q2
          go_wp2
          exact ⟨⟨k + 1, ⟨ada, asy, aca, adn, afu⟩, by omega, by go_num, set5 hT, L3.out, L4.out, below_set5 hD (by omega)⟩, by simp [intOf]; omega⟩
    · have hok2 := hok
      obtain ⟨g1, g2, g3, g4, g5⟩ := okB_true hok
      have hkep : sy ≤ kept ⟨da, sy, ca, dn, fu⟩ keep ∧ kept ⟨da, sy, ca, dn, fu⟩ keep ≤ (da.size : Int) := by unfold kept; simp only; omega
      obtain ⟨K, hK⟩ : ∃ K, kept ⟨da, sy, ca, dn, fu⟩ keep = K := ⟨_, rfl⟩
      rw [hK] at hkep
      have C3 : CrashAt da sy ca dn fu keep (da.extract 0 K.toNat) K ca false (-1) 0 := CrashAt.mk (d := ⟨da, sy, ca, dn, fu⟩) (a := ⟨da.extract 0 K.toNat, K, ca, false, -1⟩) (by simp [crashR, hok, hK])
      have hsz : K = ((da.extract 0 K.toNat).size : Int) := by simp; omega
      have hex : da.extract 0 (da.extract 0 K.toNat).size = da.extract 0 K.toNat := by congr 1; omega
      generalize da.extract 0 K.toNat = cd at *
      subst hsz
      have L1 : errB (okB cd (cd.size : Int) ca) = 0 := by rw [okB_mk g1 g2 (by omega) (by omega) (by omega)]; rfl
      have M1 := Lib.hid L1
      have d1 : decide (sy ≤ (cd.size : Int)) = true := by simp; omega
      have d2 : decide (cd.size ≤ da.size) = true := by simp; omega
      have d3 : (cd.size : Int) ≤ (da.size : Int) := by omega
      have d4 : cd.size ≤ da.size := by omega
      clear hK hok L1 hkep
      have lT := lt_of_block hT
      obtain ⟨t0, t1, t2, t3, t4, t5⟩ := cells5 hT
      go_wp2_with fail
      refine (C3 _).mono ?_
      rintro e w3 ⟨rfl, hb⟩
      replace hD := below_call0 hD hD.size hb
      replace hT := blk hb hT
      have hA := heap_last w3 (.cells #[.string cd, .int .i64 (cd.size : Int), .int .i64 ca, .bool false, .int .i64 (-1)] 23)
      replace hD := hD.alloc hD.size (.cells #[.string cd, .int .i64 (cd.size : Int), .int .i64 ca, .bool false, .int .i64 (-1)] 23)
      replace hT := blk_alloc (O := .cells #[.string cd, .int .i64 (cd.size : Int), .int .i64 ca, .bool false, .int .i64 (-1)] 23) hT
      clear hb t0 t1 t2 t3 t4 t5 lT
      go_wp2_with fail
      generalize w3.alloc (.cells #[.string cd, .int .i64 (cd.size : Int), .int .i64 ca, .bool false, .int .i64 (-1)] 23) = W at *
      obtain ⟨t0, t1, t2, t3, t4, t5⟩ := cells5 hT
      obtain ⟨a0, a1, a2, a3, a4, a5⟩ := cells5 hA
      clear hT hA
      go_cut [8] (fun s8 wx => s8 = .bool true ∧ Below w.heap.size w wx)
      case first =>
        go_region_held3 (fun w' => w'.cell? ⟨B, 0, none⟩ = some (.string da) ∧ w'.cell? ⟨B, 1, none⟩ = some (.int .i64 sy) ∧ w'.cell? ⟨B, 2, none⟩ = some (.int .i64 ca) ∧ w'.cell? ⟨B, 3, none⟩ = some (.bool dn) ∧ w'.cell? ⟨B, 4, none⟩ = some (.int .i64 fu) ∧ w'.cell? ⟨w3.heap.size, 0, none⟩ = some (.string cd) ∧ w'.cell? ⟨w3.heap.size, 1, none⟩ = some (.int .i64 (cd.size : Int)) ∧ w'.cell? ⟨w3.heap.size, 2, none⟩ = some (.int .i64 ca) ∧ w'.cell? ⟨w3.heap.size, 3, none⟩ = some (.bool false) ∧ w'.cell? ⟨w3.heap.size, 4, none⟩ = some (.int .i64 (-1)) ∧ Below w.heap.size w w') (first | (have hS := ‹_ ∧ _›; exact ⟨keepC hb (hS.1), keepC hb (hS.2.1), keepC hb (hS.2.2.1), keepC hb (hS.2.2.2.1), keepC hb (hS.2.2.2.2.1), keepC hb (hS.2.2.2.2.2.1), keepC hb (hS.2.2.2.2.2.2.1), keepC hb (hS.2.2.2.2.2.2.2.1), keepC hb (hS.2.2.2.2.2.2.2.2.1), keepC hb (hS.2.2.2.2.2.2.2.2.2.1), below_call0 (hS.2.2.2.2.2.2.2.2.2.2) (hS.2.2.2.2.2.2.2.2.2.2).size hb⟩) | exact ⟨t0, t1, t2, t3, t4, a0, a1, a2, a3, a4, hD.drew⟩)
          (first | (go_at_call 15; refine (check15_at _ M1.out).mono ?_; rintro e w7 ⟨rfl, hb⟩))
        all_goals (go_wp2_with fail; go_meet; have hS := ‹_ ∧ _›; exact ⟨rfl, hS.2.2.2.2.2.2.2.2.2.2⟩)
      case rest =>
        obtain ⟨rfl, hx⟩ := hcut
        go_wp2
        go_ret
        exact ⟨rfl, hx⟩

set_option maxHeartbeats 8000000 in
set_option maxRecDepth 100000 in
theorem safe_nil (room fuse keep : Int) (v : Value) (w : World) (h : errB (okB ⟨#[]⟩ 0 room) = 0) (hu : fuse ≤ 9223372036854775807) (a0 : Option Addr) (cap : Nat) (hv : v = .slice a0 0 cap) :
    Calls Try.prog 4 #[.int .i64 room, .int .i64 fuse, v, .int .i64 keep] w fun e w' => e = .returned (.bool true) ∧ Below w.heap.size w w' := by
  subst hv
  have hok : okB ⟨#[]⟩ 0 room = true := by
    cases hb : okB ⟨#[]⟩ 0 room with
    | true => rfl
    | false => rw [hb] at h; simp [errB] at h
  have H := Lib.hid h
  have HK := Lib.hid hok
  have HU := Lib.hid hu
  clear h hok hu
  go_enter Try.func4, Try.ntmps4
  go_wp2_with fail
  refine (lives14 _).mono ?_
  rintro e w1 ⟨rfl, hb⟩
  have hD := below_call0 (B := w.heap.size) (Below.refl w.heap.size w) (Nat.le_refl _) hb
  clear hb
  go_wp2_with fail
  refine (check15_at _ H.out).mono ?_
  rintro e w2 ⟨rfl, hb⟩
  have hT0 := blk hb (heap_last w1 _)
  have hBw := hD.size
  replace hD := below_call hD hD.size hb
  clear hb
  go_wp2_with fail
  generalize w1.heap.size = B at *
  go_loopw [32] (fun i wr => ∃ (k : Nat) (d : Dk), k ≤ 0 ∧ i = .int .i64 k ∧ wr.heap[B]? = some d.o ∧ okB d.da d.sy d.ca = true ∧ d.fu ≤ 9223372036854775807 ∧ Below w.heap.size w wr) (fun i _ => 0 - (intOf i).toNat)
  case atStart => exact ⟨0, ⟨⟨#[]⟩, 0, room, false, fuse⟩, by omega, rfl, hT0, HK.out, HU.out, hD⟩
  case round =>
    clear hD hT0
    obtain ⟨k, ⟨da, sy, ca, dn, fu⟩, hk, rfl, hT, hok, hfu, hD⟩ := hrel
    simp only at hT hok hfu
    obtain rfl : k = 0 := by omega
    have hok2 := hok
    obtain ⟨g1, g2, g3, g4, g5⟩ := okB_true hok
    have hkep : sy ≤ kept ⟨da, sy, ca, dn, fu⟩ keep ∧ kept ⟨da, sy, ca, dn, fu⟩ keep ≤ (da.size : Int) := by unfold kept; simp only; omega
    obtain ⟨K, hK⟩ : ∃ K, kept ⟨da, sy, ca, dn, fu⟩ keep = K := ⟨_, rfl⟩
    rw [hK] at hkep
    have C3 : CrashAt da sy ca dn fu keep (da.extract 0 K.toNat) K ca false (-1) 0 := CrashAt.mk (d := ⟨da, sy, ca, dn, fu⟩) (a := ⟨da.extract 0 K.toNat, K, ca, false, -1⟩) (by simp [crashR, hok, hK])
    have hsz : K = ((da.extract 0 K.toNat).size : Int) := by simp; omega
    have hex : da.extract 0 (da.extract 0 K.toNat).size = da.extract 0 K.toNat := by congr 1; omega
    generalize da.extract 0 K.toNat = cd at *
    subst hsz
    have L1 : errB (okB cd (cd.size : Int) ca) = 0 := by rw [okB_mk g1 g2 (by omega) (by omega) (by omega)]; rfl
    have M1 := Lib.hid L1
    have d1 : decide (sy ≤ (cd.size : Int)) = true := by simp; omega
    have d2 : decide (cd.size ≤ da.size) = true := by simp; omega
    have d3 : (cd.size : Int) ≤ (da.size : Int) := by omega
    have d4 : cd.size ≤ da.size := by omega
    clear hK hok L1 hkep
    have lT := lt_of_block hT
    obtain ⟨t0, t1, t2, t3, t4, t5⟩ := cells5 hT
    go_wp2_with fail
    refine (C3 _).mono ?_
    rintro e w3 ⟨rfl, hb⟩
    replace hD := below_call0 hD hD.size hb
    replace hT := blk hb hT
    have hA := heap_last w3 (.cells #[.string cd, .int .i64 (cd.size : Int), .int .i64 ca, .bool false, .int .i64 (-1)] 23)
    replace hD := hD.alloc hD.size (.cells #[.string cd, .int .i64 (cd.size : Int), .int .i64 ca, .bool false, .int .i64 (-1)] 23)
    replace hT := blk_alloc (O := .cells #[.string cd, .int .i64 (cd.size : Int), .int .i64 ca, .bool false, .int .i64 (-1)] 23) hT
    clear hb t0 t1 t2 t3 t4 t5 lT
    go_wp2_with fail
    generalize w3.alloc (.cells #[.string cd, .int .i64 (cd.size : Int), .int .i64 ca, .bool false, .int .i64 (-1)] 23) = W at *
    obtain ⟨t0, t1, t2, t3, t4, t5⟩ := cells5 hT
    obtain ⟨a0, a1, a2, a3, a4, a5⟩ := cells5 hA
    clear hT hA
    go_cut [8] (fun s8 wx => s8 = .bool true ∧ Below w.heap.size w wx)
    case first =>
      go_region_held3 (fun w' => w'.cell? ⟨B, 0, none⟩ = some (.string da) ∧ w'.cell? ⟨B, 1, none⟩ = some (.int .i64 sy) ∧ w'.cell? ⟨B, 2, none⟩ = some (.int .i64 ca) ∧ w'.cell? ⟨B, 3, none⟩ = some (.bool dn) ∧ w'.cell? ⟨B, 4, none⟩ = some (.int .i64 fu) ∧ w'.cell? ⟨w3.heap.size, 0, none⟩ = some (.string cd) ∧ w'.cell? ⟨w3.heap.size, 1, none⟩ = some (.int .i64 (cd.size : Int)) ∧ w'.cell? ⟨w3.heap.size, 2, none⟩ = some (.int .i64 ca) ∧ w'.cell? ⟨w3.heap.size, 3, none⟩ = some (.bool false) ∧ w'.cell? ⟨w3.heap.size, 4, none⟩ = some (.int .i64 (-1)) ∧ Below w.heap.size w w') (first | (have hS := ‹_ ∧ _›; exact ⟨keepC hb (hS.1), keepC hb (hS.2.1), keepC hb (hS.2.2.1), keepC hb (hS.2.2.2.1), keepC hb (hS.2.2.2.2.1), keepC hb (hS.2.2.2.2.2.1), keepC hb (hS.2.2.2.2.2.2.1), keepC hb (hS.2.2.2.2.2.2.2.1), keepC hb (hS.2.2.2.2.2.2.2.2.1), keepC hb (hS.2.2.2.2.2.2.2.2.2.1), below_call0 (hS.2.2.2.2.2.2.2.2.2.2) (hS.2.2.2.2.2.2.2.2.2.2).size hb⟩) | exact ⟨t0, t1, t2, t3, t4, a0, a1, a2, a3, a4, hD.drew⟩)
        (first | (go_at_call 15; refine (check15_at _ M1.out).mono ?_; rintro e w7 ⟨rfl, hb⟩))
      all_goals (go_wp2_with fail; go_meet; have hS := ‹_ ∧ _›; exact ⟨rfl, hS.2.2.2.2.2.2.2.2.2.2⟩)
    case rest =>
      obtain ⟨rfl, hx⟩ := hcut
      go_wp2
      go_ret
      exact ⟨rfl, hx⟩


theorem safe4 (room fuse keep : Int) (v : Value) (n : Nat) (ks : Nat → Int) (ss : Nat → ByteArray) (zs : Nat → Int) (w : World) (hu : fuse ≤ 9223372036854775807) (hv : Steps w v n ks ss zs) :
    Calls Try.prog 4 #[.int .i64 room, .int .i64 fuse, v, .int .i64 keep] w fun e w' => e = .returned (.bool true) ∧ Below w.heap.size w w' := by
  cases hb : okB ⟨#[]⟩ 0 room with
  | false =>
    have h1 := okB_false hb
    have e0 : ((⟨#[]⟩ : ByteArray).size : Int) = 0 := rfl
    exact safe_bad room fuse keep v w (by rw [hb]; rfl) (by rw [e0] at h1; omega)
  | true =>
    rcases hv with ⟨⟨a0, cap, hv⟩, _⟩ | ⟨b, off, cap, hv, hnc, hn, hc⟩
    · exact safe_nil room fuse keep v w (by rw [hb]; rfl) hu a0 cap hv
    · exact safe_ok room fuse keep v n ks ss zs w (by rw [hb]; rfl) hu b off cap hv hnc hn hc
end Go.Proofs.Ythfmmkabfndbfaa
