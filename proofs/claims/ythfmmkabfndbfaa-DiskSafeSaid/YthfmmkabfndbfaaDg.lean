/- lives: the disk answers as the document says. -/
import Derived.Test.YthfmmkabfndbfaaDf
import Derived.Deep.RegionWith
import Derived.Deep.RegionHeld3
import Derived.Deep.DeepCutAuto
import Derived.Deep.CutBlock
import Derived.KernelRfl
namespace Go.Proofs.Ythfmmkabfndbfaa
open Go.RowKit
set_option linter.unusedSimpArgs false
set_option linter.unusedVariables false

theorem write17 (s : ByteArray) (w : World) :
    Calls Try.prog 17 #[.string s] w fun e w' => e = .returned (.agg #[.int .u8 1, .string s, .int .i64 0]) ∧ w' = w.alloc (.cells #[.int .u8 1, .string s, .int .i64 0] 26) := by
  go_enter Try.func17, Try.ntmps17
  go_wp2
  refine bodyPost_ret (v := .agg #[.int .u8 1, .string s, .int .i64 0]) (by simp [results, Try.results17, go_sem]) rfl ⟨rfl, rfl⟩
theorem sync18 (w : World) :
    Calls Try.prog 18 #[] w fun e w' => e = .returned (.agg #[.int .u8 2, .string ⟨#[]⟩, .int .i64 0]) ∧ w' = w.alloc (.cells #[.int .u8 2, .string ⟨#[]⟩, .int .i64 0] 26) := by
  go_enter Try.func18, Try.ntmps18
  go_wp2
  refine bodyPost_ret (v := .agg #[.int .u8 2, .string ⟨#[]⟩, .int .i64 0]) (by simp [results, Try.results18, go_sem]) rfl ⟨rfl, rfl⟩

/-- Do at a disk, as the walk writes it -/
theorem do8_at {da : ByteArray} {sy ca : Int} {dn : Bool} {fu k : Int} {sd : ByteArray} {sz : Int} {da' : ByteArray} {sy' ca' : Int} {dn' : Bool} {fu' e' : Int} (w : World)
    (h : doR ⟨da, sy, ca, dn, fu⟩ k sd sz = (⟨da', sy', ca', dn', fu'⟩, e')) (hk : 0 ≤ k) (hu : fu ≤ 9223372036854775807) :
    Calls Try.prog 8 #[.agg #[.string da, .int .i64 sy, .int .i64 ca, .bool dn, .int .i64 fu], .agg #[.int .u8 k, .string sd, .int .i64 sz]] w fun e w' => e = .returned (.tuple #[.agg #[.string da', .int .i64 sy', .int .i64 ca', .bool dn', .int .i64 fu'], .int .i64 e']) ∧ Below w.heap.size w w' := by
  have := do8_any ⟨da, sy, ca, dn, fu⟩ k sd sz w hk hu
  rw [h] at this
  exact this
theorem crash12_at {da : ByteArray} {sy ca : Int} {dn : Bool} {fu keep : Int} {da' : ByteArray} {sy' ca' : Int} {dn' : Bool} {fu' e' : Int} (w : World)
    (h : crashR ⟨da, sy, ca, dn, fu⟩ keep = (⟨da', sy', ca', dn', fu'⟩, e')) :
    Calls Try.prog 12 #[.agg #[.string da, .int .i64 sy, .int .i64 ca, .bool dn, .int .i64 fu], .int .i64 keep] w fun e w' => e = .returned (.tuple #[.agg #[.string da', .int .i64 sy', .int .i64 ca', .bool dn', .int .i64 fu'], .int .i64 e']) ∧ Below w.heap.size w w' := by
  have := crash12_any ⟨da, sy, ca, dn, fu⟩ keep w
  rw [h] at this
  exact this

theorem read10_at {da : ByteArray} {sy ca : Int} {dn : Bool} {fu : Int} {s : ByteArray} {e' : Int} (w : World) (h1 : readS ⟨da, sy, ca, dn, fu⟩ = s) (h2 : readE ⟨da, sy, ca, dn, fu⟩ = e') :
    Calls Try.prog 10 #[.agg #[.string da, .int .i64 sy, .int .i64 ca, .bool dn, .int .i64 fu]] w fun e w' => e = .returned (.tuple #[.string s, .int .i64 e']) ∧ Below w.heap.size w w' := by
  subst h1 h2
  exact read10_any da sy ca dn fu w

abbrev d0 : Dk := ⟨⟨#[]⟩, 0, 10, false, -1⟩
abbrev d1 : Dk := ⟨⟨#[120, 121]⟩, 0, 10, false, -1⟩
abbrev d2 : Dk := ⟨⟨#[120, 121]⟩, 2, 10, false, -1⟩
abbrev d3 : Dk := ⟨⟨#[120, 121, 122]⟩, 2, 10, false, -1⟩
abbrev d4 : Dk := ⟨⟨#[120, 121]⟩, 2, 10, false, -1⟩
theorem r1 : doR d0 1 ⟨#[120, 121]⟩ 0 = (d1, 0) := by kernel_rfl
theorem r2 : doR d1 2 ⟨#[]⟩ 0 = (d2, 0) := by kernel_rfl
theorem r3 : doR d2 1 ⟨#[122]⟩ 0 = (d3, 0) := by kernel_rfl
theorem r4 : doR d3 1 ⟨#[49, 50, 51, 52, 53, 54, 55, 56]⟩ 0 = (d3, 8) := by kernel_rfl
theorem r5 : crashR d3 0 = (d4, 0) := by kernel_rfl
theorem r6 : readS d4 = ⟨#[120, 121]⟩ ∧ readE d4 = 0 := ⟨by kernel_rfl, by kernel_rfl⟩
theorem r7 : okB ⟨#[]⟩ 0 (-1) = false := by kernel_rfl

/-! blocks from world to world -/
theorem blk {W w1 : World} {b : Nat} {o : Obj} (hb : Below W.heap.size W w1) (h : W.heap[b]? = some o) : w1.heap[b]? = some o := (hb.block b (lt_of_block h)).trans h
theorem blk_alloc {w : World} {b : Nat} {o O : Obj} (h : w.heap[b]? = some o) : (w.alloc O).heap[b]? = some o := (Below.heap_alloc _ _ _ (lt_of_block h)).trans h
theorem blk_set {w : World} {b c i : Nat} {o : Obj} {v : Value} (h : w.heap[c]? = some o) (hne : c ≠ b) : (w.setCell ⟨b, i, none⟩ v).heap[c]? = some o := (Below.heap_setCell _ _ _ _ hne).trans h
theorem set5 {w : World} {b : Nat} {a0 a1 a2 a3 a4 v0 v1 v2 v3 v4 : Value} {T : TypeId} (h : w.heap[b]? = some (.cells #[a0, a1, a2, a3, a4] T (0, 0))) :
    (((((w.setCell ⟨b, 0, none⟩ v0).setCell ⟨b, 1, none⟩ v1).setCell ⟨b, 2, none⟩ v2).setCell ⟨b, 3, none⟩ v3).setCell ⟨b, 4, none⟩ v4).heap[b]? = some (.cells #[v0, v1, v2, v3, v4] T (0, 0)) := by
  have h1 := plate_set (plate_set (plate_set (plate_set (plate_set h 0 v0) 1 v1) 2 v2) 3 v3) 4 v4
  simpa using h1
theorem blk_set5 {w : World} {b c : Nat} {v0 v1 v2 v3 v4 : Value} {o : Obj} (h : w.heap[c]? = some o) (hne : c ≠ b) :
    (((((w.setCell ⟨b, 0, none⟩ v0).setCell ⟨b, 1, none⟩ v1).setCell ⟨b, 2, none⟩ v2).setCell ⟨b, 3, none⟩ v3).setCell ⟨b, 4, none⟩ v4).heap[c]? = some o :=
  blk_set (blk_set (blk_set (blk_set (blk_set h hne) hne) hne) hne) hne
theorem cells5 {w : World} {b : Nat} {a0 a1 a2 a3 a4 : Value} {T : TypeId} (h : w.heap[b]? = some (.cells #[a0, a1, a2, a3, a4] T (0, 0))) :
    w.cell? ⟨b, 0, none⟩ = some a0 ∧ w.cell? ⟨b, 1, none⟩ = some a1 ∧ w.cell? ⟨b, 2, none⟩ = some a2 ∧ w.cell? ⟨b, 3, none⟩ = some a3 ∧ w.cell? ⟨b, 4, none⟩ = some a4 ∧ (∀ o, w.frozen? ⟨b, o, none⟩ = false) := by
  simp [World.cell?, World.frozen?, h]
theorem cells3 {w : World} {b : Nat} {a0 a1 a2 : Value} {T : TypeId} (h : w.heap[b]? = some (.cells #[a0, a1, a2] T (0, 0))) :
    w.cell? ⟨b, 0, none⟩ = some a0 ∧ w.cell? ⟨b, 1, none⟩ = some a1 ∧ w.cell? ⟨b, 2, none⟩ = some a2 ∧ (∀ o, w.frozen? ⟨b, o, none⟩ = false) := by
  simp [World.cell?, World.frozen?, h]
theorem cells9 {w : World} {b : Nat} {a0 a1 a2 a3 a4 a5 a6 a7 a8 : Value} {T : TypeId} (h : w.heap[b]? = some (.cells #[a0, a1, a2, a3, a4, a5, a6, a7, a8] T (0, 0))) :
    w.cell? ⟨b, 0, none⟩ = some a0 ∧ w.cell? ⟨b, 1, none⟩ = some a1 ∧ w.cell? ⟨b, 2, none⟩ = some a2 ∧ w.cell? ⟨b, 3, none⟩ = some a3 ∧ w.cell? ⟨b, 4, none⟩ = some a4 ∧ w.cell? ⟨b, 5, none⟩ = some a5 ∧ w.cell? ⟨b, 6, none⟩ = some a6 ∧ w.cell? ⟨b, 7, none⟩ = some a7 ∧ w.cell? ⟨b, 8, none⟩ = some a8 := by
  simp [World.cell?, h]

theorem below_set5 {B b : Nat} {a w : World} {v0 v1 v2 v3 v4 : Value} (h : Below B a w) (hp : B ≤ b) :
    Below B a (((((w.setCell ⟨b, 0, none⟩ v0).setCell ⟨b, 1, none⟩ v1).setCell ⟨b, 2, none⟩ v2).setCell ⟨b, 3, none⟩ v3).setCell ⟨b, 4, none⟩ v4) :=
  Below.setCell (Below.setCell (Below.setCell (Below.setCell (Below.setCell h (p := ⟨b, 0, none⟩) hp _) (p := ⟨b, 1, none⟩) hp _) (p := ⟨b, 2, none⟩) hp _) (p := ⟨b, 3, none⟩) hp _) (p := ⟨b, 4, none⟩) hp _
theorem below_call {B : Nat} {a w w1 : World} {O : Obj} (h : Below B a w) (hp : B ≤ w.heap.size) (hb : Below (w.alloc O).heap.size (w.alloc O) w1) : Below B a w1 :=
  (h.alloc hp O).trans (hb.mono (by simp; omega))
theorem below_call0 {B : Nat} {a w w1 : World} (h : Below B a w) (hp : B ≤ w.heap.size) (hb : Below w.heap.size w w1) : Below B a w1 :=
  h.trans (hb.mono hp)

abbrev Dk.o (d : Dk) : Obj := .cells #[.string d.da, .int .i64 d.sy, .int .i64 d.ca, .bool d.dn, .int .i64 d.fu] 23 (0, 0)
def dk (k : Nat) : Dk := if k = 0 then d0 else if k = 1 then d1 else if k = 2 then d2 else d3
abbrev row3 : Obj := .cells #[.int .u8 1, .string ⟨#[120, 121]⟩, .int .i64 0, .int .u8 2, .string ⟨#[]⟩, .int .i64 0, .int .u8 1, .string ⟨#[122]⟩, .int .i64 0] 26 (0, 0)

set_option maxHeartbeats 1000000 in
set_option maxRecDepth 100000 in
theorem lives14 (w : World) : Calls Try.prog 14 #[] w fun e w' => e = .returned (.bool true) ∧ Below w.heap.size w w' := by
  go_enter Try.func14, Try.ntmps14
  go_wp2_with (first | (go_at_call 17; refine (write17 _ _).mono ?_; rintro e w1 ⟨rfl, rfl⟩) | (go_at_call 18; refine (sync18 _).mono ?_; rintro e w1 ⟨rfl, rfl⟩))
  go_loopw [2, 18] (fun y i wr => y = .int .i64 0 ∧ ∃ k : Nat, k ≤ 3 ∧ i = .int .i64 k ∧ wr.heap[w.heap.size]? = some (dk k).o ∧ wr.heap[w.heap.size + 1 + 1 + 1 + 1]? = some row3 ∧ Below w.heap.size w wr) (fun _ i _ => 3 - (intOf i).toNat)
  case atStart =>
    refine ⟨rfl, 0, by omega, rfl, blk_alloc (blk_alloc (blk_alloc (blk_alloc (heap_last w _)))), ?_, ?_⟩
    · simpa using heap_last ((((w.alloc (Obj.cells #[Value.string ⟨#[]⟩, Value.int .i64 0, Value.int .i64 10, Value.bool false, Value.int .i64 (-1)] 23)).alloc (Obj.cells #[Value.int .u8 1, Value.string ⟨#[120, 121]⟩, Value.int .i64 0] 26)).alloc (Obj.cells #[Value.int .u8 2, Value.string ⟨#[]⟩, Value.int .i64 0] 26)).alloc (Obj.cells #[Value.int .u8 1, Value.string ⟨#[122]⟩, Value.int .i64 0] 26)) row3
    · exact (((((Below.refl _ _).alloc (Nat.le_refl _) _).alloc (by simp) _).alloc (by simp; omega) _).alloc (by simp; omega) _).alloc (by simp; omega) _
  case round =>
    obtain ⟨rfl, k, hk, rfl, hB, hR, hbl⟩ := hrel
    obtain ⟨p0, p1, p2, p3, p4, p5, p6, p7, p8⟩ := cells9 hR
    have lR := lt_of_block hR
    have lB := lt_of_block hB
    obtain rfl | rfl | rfl | rfl : k = 0 ∨ k = 1 ∨ k = 2 ∨ k = 3 := by omega
    · have hB' : wr.heap[w.heap.size]? = some d0.o := hB
      clear hB
      obtain ⟨q0, q1, q2, q3, q4, q5⟩ := cells5 hB'
      go_wp2_with (go_at_call 8; refine (do8_at _ r1 (by decide) (by decide)).mono ?_; rintro e w1 ⟨rfl, hb⟩; have hB1 := blk hb (blk_alloc hB'); obtain ⟨e0, e1, e2, e3, e4, e5⟩ := cells5 hB1; have lB1 := lt_of_block hB1; clear q0 q1 q2 q3 q4 q5)
      exact ⟨⟨rfl, 1, by omega, rfl, set5 hB1, blk_set5 (blk hb (blk_alloc hR)) (by omega), below_set5 (below_call hbl (by omega) hb) (Nat.le_refl _)⟩, by simp [intOf]⟩
    · have hB' : wr.heap[w.heap.size]? = some d1.o := hB
      clear hB
      obtain ⟨q0, q1, q2, q3, q4, q5⟩ := cells5 hB'
      go_wp2_with (go_at_call 8; refine (do8_at _ r2 (by decide) (by decide)).mono ?_; rintro e w1 ⟨rfl, hb⟩; have hB1 := blk hb (blk_alloc hB'); obtain ⟨e0, e1, e2, e3, e4, e5⟩ := cells5 hB1; have lB1 := lt_of_block hB1; clear q0 q1 q2 q3 q4 q5)
      exact ⟨⟨rfl, 2, by omega, rfl, set5 hB1, blk_set5 (blk hb (blk_alloc hR)) (by omega), below_set5 (below_call hbl (by omega) hb) (Nat.le_refl _)⟩, by simp [intOf]⟩
    · have hB' : wr.heap[w.heap.size]? = some d2.o := hB
      clear hB
      obtain ⟨q0, q1, q2, q3, q4, q5⟩ := cells5 hB'
      go_wp2_with (go_at_call 8; refine (do8_at _ r3 (by decide) (by decide)).mono ?_; rintro e w1 ⟨rfl, hb⟩; have hB1 := blk hb (blk_alloc hB'); obtain ⟨e0, e1, e2, e3, e4, e5⟩ := cells5 hB1; have lB1 := lt_of_block hB1; clear q0 q1 q2 q3 q4 q5)
      exact ⟨⟨rfl, 3, by omega, rfl, set5 hB1, blk_set5 (blk hb (blk_alloc hR)) (by omega), below_set5 (below_call hbl (by omega) hb) (Nat.le_refl _)⟩, by simp [intOf]⟩
    · have hB' : wr.heap[w.heap.size]? = some d3.o := hB
      clear hB p0 p1 p2 p3 p4 p5 p6 p7 p8 hR lR
      obtain ⟨q0, q1, q2, q3, q4, q5⟩ := cells5 hB'
      go_wp2_with (first | (go_at_call 12; refine (crash12_at _ r5).mono ?_; rintro e w1 ⟨rfl, hb⟩; have hB1 := blk hb hB'; obtain ⟨e0, e1, e2, e3, e4, e5⟩ := cells5 hB1; have lB1 := lt_of_block hB1; clear q0 q1 q2 q3 q4 q5) | (go_at_call 10; refine (read10_at _ r6.1 r6.2).mono ?_; rintro e w2 ⟨rfl, hb2⟩; have hB2 := blk hb2 (blk_alloc hB1); obtain ⟨f0, f1, f2, f3, f4, f5⟩ := cells5 hB2; have lB2 := lt_of_block hB2; clear e0 e1 e2 e3 e4 e5))
      have hd : Below w.heap.size w w2 := below_call (below_call0 hbl (by omega) hb) (by omega) hb2
      go_upto_region 13 with fail
      go_cut [10, 11] (fun s10 s11 wx => s11 = .int .i64 8 ∧ Below w.heap.size w wx)
      case first =>
        go_region_with (first | (go_at_call 17; refine (write17 _ _).mono ?_; rintro e w3 ⟨rfl, rfl⟩) | (go_at_call 8; refine (do8_at _ r4 (by decide) (by decide)).mono ?_; rintro e w4 ⟨rfl, hb4⟩; obtain ⟨hc4, hf4⟩ := bcell hb4; have hd4 : Below w.heap.size w w4 := (by refine Below.trans ?_ (hb4.mono (by simp; omega)); repeat (first | with_reducible exact hd | with_reducible refine Below.drew ?_ | refine Below.alloc ?_ (by first | omega | (simp; omega)) _))))
        all_goals (go_wp2_with fail; go_meet; refine ⟨rfl, ?_⟩)
        all_goals (repeat (first | with_reducible exact hd4 | refine Below.setCell ?_ (by first | omega | (simp; done) | (simp; omega)) _ | refine Below.alloc ?_ (by have := hd4.size; omega) _))
      case rest =>
        obtain ⟨rfl, hx⟩ := hcut
        go_wp2_with (go_at_call 15; refine (check15_no _ _ _ _ _ _ r7).mono ?_; rintro e w6 ⟨rfl, hb6⟩)
        go_ret
        exact ⟨rfl, below_call0 hx hx.size hb6⟩
end Go.Proofs.Ythfmmkabfndbfaa
