import Derived.Test.YtbemgcjckchdjaaGreatDoorKIf
import Derived.Test.YtbemgcjckchdjaaGreatDoorKEj
import Derived.Maps.Views
/- The node maker: lists. -/
namespace Go.Proofs.YtbemgcjckchdjaaGreatDoor
open Go.RowKit
set_option linter.unusedSimpArgs false
set_option linter.unusedVariables false
theorem alloc3 (w : World) (a b c : Obj) : ∃ W, ((w.alloc a).alloc b).alloc c = W ∧ W.heap[w.heap.size]? = some a ∧ W.heap[w.heap.size + 1]? = some b ∧ W.heap[w.heap.size + 1 + 1]? = some c ∧ Below w.heap.size w W ∧ W.heap.size = w.heap.size + 3 := by
  refine ⟨_, rfl, blk_alloc (blk_alloc (heap_last w a)), ?_, ?_, ?_, by simp⟩
  · have h := blk_alloc (o := c) (heap_last (w.alloc a) b)
    simpa using h
  · have h := heap_last ((w.alloc a).alloc b) c
    simpa using h
  · exact ((Below.refl _ _).alloc (Nat.le_refl _) _ |>.alloc (by simp) _).alloc (by simp; omega) _
theorem cells2a {w : World} {g : Nat} {u v : Value} {T : TypeId} (h : w.heap[g]? = some (.cells #[u, v] T (0, 0))) : w.cell? ⟨g, 0, none⟩ = some u ∧ w.cell? ⟨g, 1, none⟩ = some v := by
  simp [World.cell?, h]
theorem rv_list {w : World} {lo : Nat} {vs : List VT} {A : Option Addr} {c : Nat} (h : vs.length = 0 ∨ ∃ b, A = some ⟨b, 0, none⟩ ∧ lo ≤ b ∧ b < w.heap.size ∧ RL w lo w.heap.size (toVL vs) b 0) (hc : vs.length ≤ c) (hl : vs.length ≤ 1000) :
    RV w lo w.heap.size (listV (toVL vs)) [.int .u8 5, .bool false, .int .i64 0, .string ⟨#[]⟩, .slice A vs.length c, .slice none 0 0] := by
  unfold RV
  refine ⟨A, c, none, 0, by rw [len_toVL]; rfl, by decide, by unfold I64; decide, by decide, by rw [len_toVL]; unfold LIM; omega, Nat.zero_le _, by rw [len_toVL]; exact hc, Nat.zero_le _, ?_, Or.inl rfl⟩
  rcases h with h | ⟨b, e, h1, h2, h3⟩
  · exact Or.inl (by rw [len_toVL]; exact h)
  · exact Or.inr ⟨b, 0, e, h1, h2, h3⟩
set_option maxHeartbeats 4000000
set_option maxRecDepth 100000
/-- rows that lie below lo1 from lo on, or from a place of their own on -/
def Two (lo lo1 n hi : Nat) (b : Nat) : Prop := (lo ≤ b ∧ b < lo1) ∨ (n ≤ b ∧ b < hi)
def AllPostQ (lo lo1 : Nat) (w : World) (r : Except Int (List VT)) (x : Ending) (w' : World) : Prop :=
  Below w.heap.size w w' ∧ match r with
  | .error e => x = .returned (.tuple #[.slice none 0 0, .int .i64 e])
  | .ok vs => ∃ A c, x = .returned (.tuple #[.slice A vs.length c, .int .i64 0]) ∧ vs.length ≤ c ∧ (vs.length = 0 ∨ ∃ b, A = some ⟨b, 0, none⟩ ∧ w.heap.size ≤ b ∧ b < w'.heap.size ∧ RQL w' (Two lo lo1 w.heap.size w'.heap.size) (toVL vs) b 0)
theorem AllPost.two {w w' : World} {lo lo1 : Nat} {r : Except Int (List VT)} {x : Ending} (h : AllPost w r x w') : AllPostQ lo lo1 w r x w' := by
  cases r with
  | error e => exact h
  | ok vs =>
    obtain ⟨hb, A, c, e, hc, hr⟩ := h
    refine ⟨hb, A, c, e, hc, ?_⟩
    rcases hr with h0 | ⟨b, e2, h1, h2, h3⟩
    · exact Or.inl h0
    · exact Or.inr ⟨b, e2, h1, h2, RQL.keep (fun _ _ _ => rfl) (fun b hb => Or.inr hb) _ b 0 ⟨h1, h2⟩ (RQL.of_rv _ _ _ h3)⟩
theorem AllPostQ.weak {w w' : World} {lo lo1 : Nat} {r : Except Int (List VT)} {x : Ending} (h : AllPostQ lo lo1 w r x w') (hl : lo1 ≤ w.heap.size) : AllPostV w r x w' := by
  cases r with
  | error e => exact h
  | ok vs =>
    obtain ⟨hb, A, c, e, hc, hr⟩ := h
    have hs := hb.size
    refine ⟨hb, A, c, e, hc, ?_⟩
    rcases hr with h0 | ⟨b, e2, h1, h2, h3⟩
    · exact Or.inl h0
    · exact Or.inr ⟨b, e2, h1, h2, RQL.to_rv (fun b hb => by rcases hb with h | h <;> omega) _ _ _ h3⟩
/-- .. of one value -/
def EvPostQ (lo lo1 : Nat) (w : World) (r : Rz) (x : Ending) (w' : World) : Prop :=
  Below w.heap.size w w' ∧ ∃ v0 v1 v2 v3 v4 v5, x = .returned (.tuple #[.agg #[v0, v1, v2, v3, v4, v5], .int .i64 r.2]) ∧ RQ w' (Two lo lo1 w.heap.size w'.heap.size) r.1 [v0, v1, v2, v3, v4, v5]
theorem EvPost.two {w w' : World} {lo lo1 : Nat} {r : Rz} {x : Ending} (h : EvPost w r x w') : EvPostQ lo lo1 w r x w' := by
  obtain ⟨hb, v0, v1, v2, v3, v4, v5, e, hv⟩ := h
  exact ⟨hb, v0, v1, v2, v3, v4, v5, e, RQ.keep (fun _ _ _ => rfl) (fun b hb => Or.inr hb) _ _ (RQ.of_rv _ _ hv)⟩
theorem EvPostQ.one {w w' : World} {r : Rz} {x : Ending} (h : EvPostQ 0 0 w r x w') : EvPost w r x w' := by
  obtain ⟨hb, v0, v1, v2, v3, v4, v5, e, hv⟩ := h
  exact ⟨hb, v0, v1, v2, v3, v4, v5, e, RQ.to_rv (fun b hb => by rcases hb with h | h; exact absurd h.2 (Nat.not_lt_zero _); exact h) _ _ hv⟩
theorem rq_list {w : World} {Q : Nat → Prop} {vs : List VT} {A : Option Addr} {c : Nat} (h : vs.length = 0 ∨ ∃ b, A = some ⟨b, 0, none⟩ ∧ Q b ∧ RQL w Q (toVL vs) b 0) (hc : vs.length ≤ c) (hl : vs.length ≤ 1000) :
    RQ w Q (listV (toVL vs)) [.int .u8 5, .bool false, .int .i64 0, .string ⟨#[]⟩, .slice A vs.length c, .slice none 0 0] := by
  unfold RQ
  refine ⟨A, c, none, 0, by rw [len_toVL]; rfl, by decide, by unfold I64; decide, by decide, by rw [len_toVL]; unfold LIM; omega, Nat.zero_le _, by rw [len_toVL]; exact hc, Nat.zero_le _, ?_, Or.inl rfl⟩
  rcases h with h | ⟨b, e, h1, h3⟩
  · exact Or.inl (by rw [len_toVL]; exact h)
  · exact Or.inr ⟨b, 0, e, h1, h3⟩
theorem two_lt {lo lo1 n hi b : Nat} (h : Two lo lo1 n hi b) (hl : lo1 ≤ hi) : b < hi := by rcases h with h | h <;> omega
theorem two_mono {lo lo1 n hi hi' : Nat} (h : hi ≤ hi') (b : Nat) (hb : Two lo lo1 n hi b) : Two lo lo1 n hi' b := by rcases hb with hb | hb; exact Or.inl hb; exact Or.inr ⟨hb.1, by omega⟩
theorem RQ.box {w w9 : World} {Q Q' : Nat → Prop} {t : VT} {cs : List Value} {g o : Nat} {us : List Value} (h : RQ w Q t cs) (hb : Below w.heap.size w w9) (hq : ∀ b, Q b → b < w.heap.size ∧ b ≠ g ∧ ((w9.setCells g o us).heap.size = w9.heap.size → Q' b)) : RQ (w9.setCells g o us) Q' t cs :=
  RQ.keep (fun b o' hb' => (setCells_far (hq b hb').2.1 _ _ _ _).trans (hb.cell (p := ⟨b, o', none⟩) (hq b hb').1)) (fun b h => (hq b h).2.2 (setCells_size _ _ _)) t cs h
theorem two_box {lo lo1 n m h8 h9 hf b : Nat} (h : Two lo lo1 m h8 b) (hl : lo1 ≤ n) (hm : m = n + 3) (h1 : m ≤ h8) (h2 : h8 ≤ h9) : b < h8 ∧ b ≠ n + 1 + 1 ∧ (hf = h9 → Two lo lo1 n hf b) := by
  rcases h with h | h
  · exact ⟨by omega, by omega, fun _ => Or.inl h⟩
  · exact ⟨by omega, by omega, fun e => Or.inr ⟨by omega, by omega⟩⟩
theorem makerLQ_calls (lo lo1 : Nat) (rs : List Rz) (A : Option Addr) (m c : Nat) (row : VT) (r0 r1 r2 r3 r4 r5 : Value) (w : World) (hlo : lo1 ≤ w.heap.size) (hlen : rs.length ≤ 1000) (hL : Laid w) (hr : RV w 0 w.heap.size row [r0, r1, r2, r3, r4, r5])
    (ha : ∀ w', Below w.heap.size w w' → Calls Tryz.prog 209 #[.slice A m c, .agg #[r0, r1, r2, r3, r4, r5]] w' (AllPostQ lo lo1 w' (allR rs))) :
    Calls Tryz.prog 208 #[.agg #[.slice none 0 0, .slice A m c], .agg #[r0, r1, r2, r3, r4, r5]] w (EvPostQ lo lo1 w (makeR none rs)) := by
  have hr0 := hr
  obtain ⟨kr, br, nr, sr, lr, fr, ar1, cr1, ar2, cr2, hre, er, hjx⟩ := RV.mk_parts hr
  simp only [List.cons.injEq, and_true] at er
  obtain ⟨rfl, rfl, rfl, rfl, rfl, rfl⟩ := er
  clear hjx hr hre
  obtain ⟨W, hW, h0, h1, h2, hB, hS⟩ := alloc3 w (.cells #[.slice none 0 0, .slice A m c] 135) (.cells #[.int .u8 kr, .bool br, .int .i64 nr, .string sr, .slice ar1 lr.len cr1, .slice ar2 fr.len cr2] 27) zeroO
  have hal := ha W hB
  have HCK := Lib.hid (fun (t : VT) (cs : List Value) (w' : World) (hb : Below W.heap.size W w') (hv : RV w' 0 w'.heap.size t cs) => Check_any t w' cs 0 w'.heap.size hv (Nat.le_refl _) (hL.below (below_call0 hB hB.size hb)).tabs)
  have HB := Lib.hid hB
  have HS := Lib.hid hS
  have H0 := Lib.hid h0
  have H1 := Lib.hid h1
  have H2 := Lib.hid h2
  have HWE := Lib.hid hW
  have hvl := allR_length rs
  have her := allR_err rs
  unfold makeR
  generalize allR rs = r at *
  clear ha hL hr0 hW h0 h1 h2 hB hS
  cases r with
  | error e =>
    have hal2 : Calls Tryz.prog 209 #[.slice A m c, .agg #[.int .u8 kr, .bool br, .int .i64 nr, .string sr, .slice ar1 lr.len cr1, .slice ar2 fr.len cr2]] W (fun x w' => Below W.heap.size W w' ∧ x = .returned (.tuple #[.slice none 0 0, .int .i64 e])) := hal
    have HAL := Lib.hid hal2
    have hne : (e != 0) = true := by simpa using her e rfl
    clear hal hal2 her hvl
    show Calls _ _ _ _ (EvPostQ lo lo1 w (nullV, e))
    go_enter Tryz.func208, Tryz.ntmps208
    go_upto_region 1 with (fail)
    have hw := HWE.out
    rw [hw]
    clear hw HWE
    obtain ⟨p0, p1⟩ := cells2a H0.out
    obtain ⟨q0, q1, q2, q3, q4, q5, q6⟩ := cells6 H1.out
    go_wp2_with (go_at_call 209; (with_reducible refine (HAL.out).mono ?_); rintro e' w7 ⟨hb7, rfl⟩; obtain ⟨z0, z1, z2, z3, z4, z5, z6⟩ := cells6 (blk hb7 H2.out); have HB7 := Lib.hid (below_call0 HB.out HB.out.size hb7); clear hb7)
    refine bodyPost_ret (v := .tuple #[zeroV, .int .i64 e]) (by simp [results, Tryz.results208, go_sem, cell_set_same, z0, z1, z2, z3, z4, z5]) rfl ?_
    exact (ev_null (setCells_below (by omega) [_, _, _, _, _, _] 0 _ HB7.out)).two
  | ok vs =>
    have hvl2 := hvl vs rfl
    have hal2 : Calls Tryz.prog 209 #[.slice A m c, .agg #[.int .u8 kr, .bool br, .int .i64 nr, .string sr, .slice ar1 lr.len cr1, .slice ar2 fr.len cr2]] W (fun x w' => Below W.heap.size W w' ∧ ∃ A c, x = .returned (.tuple #[.slice A vs.length c, .int .i64 0]) ∧ vs.length ≤ c ∧ (vs.length = 0 ∨ ∃ b, A = some ⟨b, 0, none⟩ ∧ W.heap.size ≤ b ∧ b < w'.heap.size ∧ RQL w' (Two lo lo1 W.heap.size w'.heap.size) (toVL vs) b 0)) := hal
    have HAL := Lib.hid hal2
    have HVL : Hid (vs.length ≤ 1000) := Lib.hid (by omega)
    clear hal hal2 her hvl hvl2
    show Calls _ _ _ _ (EvPostQ lo lo1 w (checkedR (listV (toVL vs))))
    obtain ⟨y, hy⟩ : ∃ y, checkV (listV (toVL vs)) 0 = y := ⟨_, rfl⟩
    unfold checkedR
    rw [hy]
    by_cases h0 : y = 0
    · subst h0
      rw [if_pos rfl]
      have HY := Lib.hid hy
      clear hy
      go_enter Tryz.func208, Tryz.ntmps208
      go_upto_region 1 with (fail)
      have hw := HWE.out
      rw [hw]
      clear hw HWE
      obtain ⟨p0, p1⟩ := cells2a H0.out
      obtain ⟨q0, q1, q2, q3, q4, q5, q6⟩ := cells6 H1.out
      go_upto_region 5 with (go_at_call 209; (with_reducible refine (HAL.out).mono ?_); rintro e' w7 ⟨hb7, A7, c7, rfl, hc7, hr7⟩; have HB7 := Lib.hid hb7; have HC7 := Lib.hid hc7; have HR7 := Lib.hid hr7; clear hb7 hc7 hr7)
      have hb8 := below_new (w := w7) (.cells #[.int .u8 5, .bool false, .int .i64 0, .string ⟨#[]⟩, .slice A7 vs.length c7, .slice none 0 0] 27)
      have h8 := heap_last w7 (.cells #[.int .u8 5, .bool false, .int .i64 0, .string ⟨#[]⟩, .slice A7 vs.length c7, .slice none 0 0] 27)
      have hrv := RQ.keep (Q := Two lo lo1 W.heap.size w7.heap.size) (Q' := Two lo lo1 W.heap.size (w7.alloc (.cells #[.int .u8 5, .bool false, .int .i64 0, .string ⟨#[]⟩, .slice A7 vs.length c7, .slice none 0 0] 27)).heap.size) (fun b o hq => hb8.cell (p := ⟨b, o, none⟩) (two_lt hq (by have := HB7.out.size; have := HS.out; omega))) (two_mono hb8.size) _ _ (rq_list (HR7.out.imp id (fun h => h.elim fun b h => ⟨b, h.1, Or.inr ⟨h.2.1, h.2.2.1⟩, h.2.2.2⟩)) HC7.out HVL.out)
      generalize w7.alloc (.cells #[.int .u8 5, .bool false, .int .i64 0, .string ⟨#[]⟩, .slice A7 vs.length c7, .slice none 0 0] 27) = w8 at *
      have hbw8 := below_call0 HB7.out HB7.out.size hb8
      have hck := HCK.out _ _ w8 hbw8 (RQ.to_rv (fun b hb => ⟨Nat.zero_le _, two_lt hb (by have := hbw8.size; have := HS.out; omega)⟩) _ _ hrv)
      rw [HY.out] at hck
      have HK := Lib.hid hck
      have HRV := Lib.hid hrv
      have HB8 := Lib.hid hbw8
      have HH8 := Lib.hid h8
      have HH2 := Lib.hid (blk hbw8 H2.out)
      clear p0 p1 q0 q1 q2 q3 q4 q5 q6
      obtain ⟨p0, p1⟩ := cells2a (blk hbw8 H0.out)
      obtain ⟨q0, q1, q2, q3, q4, q5, q6⟩ := cells6 h8
      clear hb8 h8 hrv hbw8 hck HY HCK HAL HR7 HC7 HVL HB7
      go_wp2_with (go_at_call 17; (with_reducible refine (HK.out).mono ?_); rintro e' w9 ⟨rfl, hb9⟩; have HB9 := Lib.hid hb9; obtain ⟨z0, z1, z2, z3, z4, z5, z6⟩ := cells6 (blk hb9 HH2.out); clear q0 q1 q2 q3 q4 q5 q6; obtain ⟨q0, q1, q2, q3, q4, q5, q6⟩ := cells6 (blk hb9 HH8.out); clear hb9)
      refine bodyPost_ret (v := .tuple #[.agg #[.int .u8 5, .bool false, .int .i64 0, .string ⟨#[]⟩, .slice A7 vs.length c7, .slice none 0 0], .int .i64 0]) (by simp [results, Tryz.results208, go_sem, cell_set_same, z0, z1, z2, z3, z4, z5]) rfl ?_
      have hbz := below_call0 HB.out HB.out.size (below_call0 HB8.out HB8.out.size HB9.out)
      exact ⟨setCells_below (by omega) [_, _, _, _, _, _] 0 _ hbz, _, _, _, _, _, _, rfl, RQ.box (us := [_, _, _, _, _, _]) (o := 0) HRV.out HB9.out (fun b hq => two_box hq hlo HS.out HB8.out.size HB9.out.size)⟩
    · rw [if_neg h0]
      have hn0 : (y != 0) = true := by simpa using h0
      have HY := Lib.hid hy
      clear hy h0
      go_enter Tryz.func208, Tryz.ntmps208
      go_upto_region 1 with (fail)
      have hw := HWE.out
      rw [hw]
      clear hw HWE
      obtain ⟨p0, p1⟩ := cells2a H0.out
      obtain ⟨q0, q1, q2, q3, q4, q5, q6⟩ := cells6 H1.out
      go_upto_region 5 with (go_at_call 209; (with_reducible refine (HAL.out).mono ?_); rintro e' w7 ⟨hb7, A7, c7, rfl, hc7, hr7⟩; have HB7 := Lib.hid hb7; have HC7 := Lib.hid hc7; have HR7 := Lib.hid hr7; clear hb7 hc7 hr7)
      have hb8 := below_new (w := w7) (.cells #[.int .u8 5, .bool false, .int .i64 0, .string ⟨#[]⟩, .slice A7 vs.length c7, .slice none 0 0] 27)
      have h8 := heap_last w7 (.cells #[.int .u8 5, .bool false, .int .i64 0, .string ⟨#[]⟩, .slice A7 vs.length c7, .slice none 0 0] 27)
      have hrv := RQ.keep (Q := Two lo lo1 W.heap.size w7.heap.size) (Q' := Two lo lo1 W.heap.size (w7.alloc (.cells #[.int .u8 5, .bool false, .int .i64 0, .string ⟨#[]⟩, .slice A7 vs.length c7, .slice none 0 0] 27)).heap.size) (fun b o hq => hb8.cell (p := ⟨b, o, none⟩) (two_lt hq (by have := HB7.out.size; have := HS.out; omega))) (two_mono hb8.size) _ _ (rq_list (HR7.out.imp id (fun h => h.elim fun b h => ⟨b, h.1, Or.inr ⟨h.2.1, h.2.2.1⟩, h.2.2.2⟩)) HC7.out HVL.out)
      generalize w7.alloc (.cells #[.int .u8 5, .bool false, .int .i64 0, .string ⟨#[]⟩, .slice A7 vs.length c7, .slice none 0 0] 27) = w8 at *
      have hbw8 := below_call0 HB7.out HB7.out.size hb8
      have hck := HCK.out _ _ w8 hbw8 (RQ.to_rv (fun b hb => ⟨Nat.zero_le _, two_lt hb (by have := hbw8.size; have := HS.out; omega)⟩) _ _ hrv)
      rw [HY.out] at hck
      have HK := Lib.hid hck
      have HRV := Lib.hid hrv
      have HB8 := Lib.hid hbw8
      have HH8 := Lib.hid h8
      have HH2 := Lib.hid (blk hbw8 H2.out)
      clear p0 p1 q0 q1 q2 q3 q4 q5 q6
      obtain ⟨p0, p1⟩ := cells2a (blk hbw8 H0.out)
      obtain ⟨q0, q1, q2, q3, q4, q5, q6⟩ := cells6 h8
      clear hb8 h8 hrv hbw8 hck HY HCK HAL HR7 HC7 HVL HB7
      go_wp2_with (go_at_call 17; (with_reducible refine (HK.out).mono ?_); rintro e' w9 ⟨rfl, hb9⟩; have HB9 := Lib.hid hb9; obtain ⟨z0, z1, z2, z3, z4, z5, z6⟩ := cells6 (blk hb9 HH2.out); clear hb9)
      refine bodyPost_ret (v := .tuple #[zeroV, .int .i64 y]) (by simp [results, Tryz.results208, go_sem, cell_set_same, z0, z1, z2, z3, z4, z5]) rfl ?_
      exact (ev_null (setCells_below (by omega) [_, _, _, _, _, _] 0 _ (below_call0 HB.out HB.out.size (below_call0 HB8.out HB8.out.size HB9.out)))).two
theorem makerL_calls (S : Nat → Prop) (fs : List (VT → Rz)) (A : Option Addr) (c : Nat) (row : VT) (r0 r1 r2 r3 r4 r5 : Value) (w : World) (hN : NodeRow S w fs A) (hlen : fs.length ≤ 1000) (hL : Laid w) (hr : RV w 0 w.heap.size row [r0, r1, r2, r3, r4, r5]) :
    Calls Tryz.prog 208 #[.agg #[.slice none 0 0, .slice A fs.length c], .agg #[r0, r1, r2, r3, r4, r5]] w (EvPost w (makeR none (fs.map fun f => f row))) :=
  (makerLQ_calls 0 0 (fs.map fun f => f row) A fs.length c row r0 r1 r2 r3 r4 r5 w (Nat.zero_le _) (by rw [List.length_map]; exact hlen) hL hr (fun w' hb => (all_calls S fs A c row r0 r1 r2 r3 r4 r5 w' (hN.later (Later.of_below hb)) hlen (hL.below hb) (hr.grow hb)).mono fun _ _ h => h.two)).mono fun _ _ h => h.one
end Go.Proofs.YtbemgcjckchdjaaGreatDoor
/- Names that stand apart; a struct made of them, name by name (plain). -/
namespace Go.Proofs.YtbemgcjckchdjaaGreatDoor
open Go.RowKit
set_option linter.unusedSimpArgs false
set_option linter.unusedVariables false
abbrev keyL (s : ByteArray) : Lit := .string s.data.toList
theorem keyL_ok (s : ByteArray) : WideAt.IsKeyLit (keyL s) := trivial
theorem setD_snoc (l : List ByteArray) (s : ByteArray) : setD (l ++ [s]) = tickD (setD l) s := by
  unfold setD
  rw [List.foldl_append]
  rfl
theorem setD_map (l : List ByteArray) : Maps.Tidy (setD l) ∧ ∀ p ∈ l, Maps.has (setD l) (keyL p) = true := by
  suffices h : ∀ l : List ByteArray, Maps.Tidy (setD l.reverse) ∧ ∀ p ∈ l.reverse, Maps.has (setD l.reverse) (keyL p) = true by
    have := h l.reverse
    rwa [List.reverse_reverse] at this
  intro l
  induction l with
  | nil => exact ⟨Maps.tidy_empty, fun p hp => by simp at hp⟩
  | cons s r ih =>
    rw [List.reverse_cons, setD_snoc]
    refine ⟨ih.1.put (keyL_ok s) _, fun p hp => ?_⟩
    by_cases e : keyL p = keyL s
    · rw [e]; exact Maps.has_put_same ih.1.isMap (keyL_ok s) _
    · have hp2 : p ∈ r.reverse := by
        rcases List.mem_append.1 hp with h | h
        · exact h
        · simp only [List.mem_singleton] at h
          exact absurd (by rw [h]) e
      unfold tickD
      rw [Maps.has_put_other e]
      exact ih.2 p hp2
theorem setD_size (l : List ByteArray) : Maps.size (setD l) ≤ l.length := by
  suffices h : ∀ l : List ByteArray, Maps.size (setD l.reverse) ≤ l.length by
    have := h l.reverse
    rwa [List.reverse_reverse, List.length_reverse] at this
  intro l
  induction l with
  | nil => exact Nat.le_refl _
  | cons s r ih =>
    rw [List.reverse_cons, setD_snoc]
    unfold tickD
    rw [Maps.size_put (setD_map r.reverse).1]
    simp only [List.length_cons]
    split <;> omega
/-- names that are apart: none is among those ahead of it -/
theorem apart_new : ∀ (l : List ByteArray), apartB l = true → ∀ (a : List ByteArray) (s : ByteArray) (b : List ByteArray), l = a ++ s :: b → ∀ p ∈ a, (p.toList == s.toList) = false := by
  suffices h : ∀ l : List ByteArray, Maps.size (setD l.reverse) = l.length → ∀ (a : List ByteArray) (s : ByteArray) (b : List ByteArray), l.reverse = a ++ s :: b → ∀ p ∈ a, (p.toList == s.toList) = false by
    intro l hl
    have := h l.reverse
    rw [List.reverse_reverse, List.length_reverse] at this
    refine this ?_
    unfold apartB at hl
    have := beq_iff_eq.1 hl
    omega
  intro l
  induction l with
  | nil => intro _ a s b e; simp at e
  | cons s r ih =>
    intro hs a t b e p hp
    rw [List.reverse_cons] at e hs
    rw [setD_snoc] at hs
    unfold tickD at hs
    rw [Maps.size_put (setD_map r.reverse).1] at hs
    have hle := setD_size r.reverse
    rw [List.length_reverse] at hle
    simp only [List.length_cons] at hs
    have hnot : Maps.has (setD r.reverse) (keyL s) = false := by
      cases hh : Maps.has (setD r.reverse) (keyL s) with
      | false => rfl
      | true =>
        have hh' : Maps.has (setD r.reverse) (Lit.string s.data.toList) = true := hh
        rw [hh'] at hs
        simp at hs
        omega
    have hsz : Maps.size (setD r.reverse) = r.length := by
      have hh' : Maps.has (setD r.reverse) (Lit.string s.data.toList) = false := hnot
      rw [hh'] at hs
      simp at hs
      omega
    rcases List.eq_nil_or_concat b with rfl | ⟨b', u, rfl⟩
    · have e2 : r.reverse = a ∧ s = t := by
        have := List.append_inj' (s₁ := r.reverse) (t₁ := [s]) (s₂ := a) (t₂ := [t]) e rfl
        exact ⟨this.1, by simpa using this.2⟩
      obtain ⟨rfl, rfl⟩ := e2
      have h1 := (setD_map r.reverse).2 p hp
      rw [beq_eq_false_iff_ne]
      intro he
      have : keyL p = keyL s := by
        show Lit.string _ = Lit.string _
        rw [← ByteArray.toList_eq, ← ByteArray.toList_eq, he]
      rw [this, hnot] at h1
      cases h1
    · have e2 : r.reverse = a ++ t :: b' := by
        have := List.append_inj' (s₁ := r.reverse) (t₁ := [s]) (s₂ := a ++ t :: b') (t₂ := [u]) (by rw [e]; simp) rfl
        exact this.1
      exact ih hsz a t b' e2 p hp
theorem putsF_snoc : ∀ (a : List ByteArray) (b : List VT) (f : FL) (n : ByteArray) (v : VT), a.length = b.length → putsF f (a ++ [n]) (b ++ [v]) = putF (putsF f a b) n v
  | [], [], f, n, v, _ => rfl
  | [], _ :: _, f, n, v, h => by simp at h
  | _ :: _, [], f, n, v, h => by simp at h
  | x :: a, y :: b, f, n, v, h => by
    show putsF (putF f x y) (a ++ [n]) (b ++ [v]) = _
    rw [putsF_snoc a b _ n v (by simpa using h)]
    rfl
/-- the names of the fields -/
def namesF : FL → List ByteArray
  | .nil => []
  | .cons s _ r => s :: namesF r
theorem idxF_no (n : ByteArray) : ∀ (f : FL) (i : Nat), (∀ p ∈ namesF f, (p.toList == n.toList) = false) → idxF n f i = -1
  | .nil, i, h => rfl
  | .cons s t r, i, h => by
    unfold idxF
    rw [if_neg (by rw [h s (by simp [namesF])]; simp)]
    exact idxF_no n r (i + 1) (fun p hp => h p (by simp [namesF, hp]))
theorem namesF_ins (n : ByteArray) (x : VT) : ∀ (f : FL) (p : ByteArray), p ∈ namesF (insF n x f) → p = n ∨ p ∈ namesF f
  | .nil, p, h => by
    unfold insF namesF at h
    simp [namesF] at h
    exact Or.inl h
  | .cons s t r, p, h => by
    unfold insF at h
    split at h
    · simp only [namesF, List.mem_cons] at h ⊢
      rcases h with h | h | h
      · exact Or.inl h
      · exact Or.inr (Or.inl h)
      · exact Or.inr (Or.inr h)
    · simp only [namesF, List.mem_cons] at h ⊢
      rcases h with h | h
      · exact Or.inr (Or.inl h)
      · rcases namesF_ins n x r p h with h | h
        · exact Or.inl h
        · exact Or.inr (Or.inr h)
/-- apart names: each is new, and goes in where the names rise -/
theorem puts_new (ns : List ByteArray) (vs : List VT) (hl : ns.length = vs.length) (hap : apartB ns = true) : ∀ i, i ≤ ns.length → (∀ p ∈ namesF (putsF .nil (ns.take i) (vs.take i)), p ∈ ns.take i) ∧ (putsF .nil (ns.take i) (vs.take i)).len = i ∧
    ∀ h : i < ns.length, idxF ns[i] (putsF .nil (ns.take i) (vs.take i)) 0 = -1 ∧ putsF .nil (ns.take (i + 1)) (vs.take (i + 1)) = insF ns[i] (vs[i]'(by omega)) (putsF .nil (ns.take i) (vs.take i)) := by
  have new : ∀ i, (∀ p ∈ namesF (putsF .nil (ns.take i) (vs.take i)), p ∈ ns.take i) → ∀ h : i < ns.length, idxF ns[i] (putsF .nil (ns.take i) (vs.take i)) 0 = -1 ∧ putsF .nil (ns.take (i + 1)) (vs.take (i + 1)) = insF ns[i] (vs[i]'(by omega)) (putsF .nil (ns.take i) (vs.take i)) := by
    intro i hp h
    have hsp : ns = ns.take i ++ ns[i] :: ns.drop (i + 1) := by
      rw [← List.drop_eq_getElem_cons h, List.take_append_drop]
    have hno := idxF_no ns[i] _ 0 (fun p hpp => apart_new ns hap (ns.take i) ns[i] (ns.drop (i + 1)) hsp p (hp p hpp))
    refine ⟨hno, ?_⟩
    rw [List.take_succ_eq_append_getElem h, List.take_succ_eq_append_getElem (by omega : i < vs.length), putsF_snoc _ _ _ _ _ (by simp; omega)]
    unfold putF
    rw [hno, if_neg (by decide)]
  intro i
  induction i with
  | zero =>
    intro _
    have h0 : ∀ p ∈ namesF (putsF .nil (ns.take 0) (vs.take 0)), p ∈ ns.take 0 := by
      rw [List.take_zero, List.take_zero]
      intro p hp
      cases hp
    exact ⟨h0, rfl, new 0 h0⟩
  | succ i ih =>
    intro hi
    obtain ⟨h1, h2, h3⟩ := ih (by omega)
    obtain ⟨h4, h5⟩ := h3 (by omega)
    have h6 : ∀ p ∈ namesF (putsF .nil (ns.take (i + 1)) (vs.take (i + 1))), p ∈ ns.take (i + 1) := by
      rw [h5]
      intro p hp
      rw [List.take_succ_eq_append_getElem (by omega : i < ns.length)]
      rcases namesF_ins _ _ _ p hp with h | h
      · exact List.mem_append.2 (Or.inr (by simp [h]))
      · exact List.mem_append.2 (Or.inl (h1 p h))
    exact ⟨h6, by rw [h5, insF_len, h2], new (i + 1) h6⟩
end Go.Proofs.YtbemgcjckchdjaaGreatDoor
