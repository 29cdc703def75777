import Derived.Test.YtbemgcjckchdjaaGreatDoorLIf
import Derived.Test.YtbemgcjckchdjaaGreatDoorLEj
import Derived.Maps.Views
/- The node maker: lists. -/
namespace Go.Proofs.YtbemgcjckchdjaaGreatDoor
open Go.RowKit
set_option linter.unusedSimpArgs false
set_option linter.unusedVariables false
theorem If (w : World) (a b c : Obj) : ∃ W, ((w.alloc a).alloc b).alloc c = W ∧ W.heap[w.heap.size]? = some a ∧ W.heap[w.heap.size + 1]? = some b ∧ W.heap[w.heap.size + 1 + 1]? = some c ∧ Below w.heap.size w W ∧ W.heap.size = w.heap.size + 3 := by
 refine ⟨_, rfl, Af (Af (Ab w a)), ?_, ?_, ?_, by simp⟩
 · have h := Af (o := c) (Ab (w.alloc a) b)
   simpa using h
 · have h := Ab ((w.alloc a).alloc b) c
   simpa using h
 · exact ((Below.refl _ _).alloc (Nat.le_refl _) _ |>.alloc (by simp) _).alloc (by simp; omega) _
theorem BM {w : World} {g : Nat} {u v : Value} {T : TypeId} (h : w.heap[g]? = some (.cells #[u, v] T (0, 0))) : w.cell? ⟨g, 0, none⟩ = some u ∧ w.cell? ⟨g, 1, none⟩ = some v := by
 simp [World.cell?, h]
set_option maxHeartbeats 4000000
set_option maxRecDepth 100000
def Two (lo lo1 n hi : Nat) (b : Nat) : Prop := (lo ≤ b ∧ b < lo1) ∨ (n ≤ b ∧ b < hi)
def AllPostQ (lo lo1 : Nat) (w : World) (r : Except Int (List VT)) (x : Ending) (w' : World) : Prop :=
 Below w.heap.size w w' ∧ match r with
 | .error e => x = .returned (.tuple #[.slice none 0 0, .int .i64 e])
 | .ok vs => ∃ A c, x = .returned (.tuple #[.slice A vs.length c, .int .i64 0]) ∧ vs.length ≤ c ∧ (vs.length = 0 ∨ ∃ b, A = some ⟨b, 0, none⟩ ∧ w.heap.size ≤ b ∧ b < w'.heap.size ∧ RQL w' (Two lo lo1 w.heap.size w'.heap.size) (Au vs) b 0)
theorem AllPost.two {w w' : World} {lo lo1 : Nat} {r : Except Int (List VT)} {x : Ending} (h : AllPost w r x w') : AllPostQ lo lo1 w r x w' := by
 cases r with
 | error e => exact h
 | ok vs =>
   obtain ⟨hb, A, c, e, hc, hr⟩ := h
   refine ⟨hb, A, c, e, hc, ?_⟩
   rcases hr with h0 | ⟨b, e2, h1, h2, h3⟩
   · exact Or.inl h0
   · exact Or.inr ⟨b, e2, h1, h2, RQL.keep (fun _ _ _ => rfl) (fun b hb => Or.inr hb) _ b 0 ⟨h1, h2⟩ (RQL.of_rv _ _ _ h3)⟩
theorem AllPostQ.weak {w w' : World} {lo lo1 : Nat} {r : Except Int (List VT)} {x : Ending} (h : AllPostQ lo lo1 w r x w') (hl : lo1 ≤ w.heap.size) : BP w r x w' := by
 cases r with
 | error e => exact h
 | ok vs =>
   obtain ⟨hb, A, c, e, hc, hr⟩ := h
   have hs := hb.size
   refine ⟨hb, A, c, e, hc, ?_⟩
   rcases hr with h0 | ⟨b, e2, h1, h2, h3⟩
   · exact Or.inl h0
   · exact Or.inr ⟨b, e2, h1, h2, RQL.to_rv (fun b hb => by rcases hb with h | h <;> omega) _ _ _ h3⟩
def EvPostQ (lo lo1 : Nat) (w : World) (r : Rz) (x : Ending) (w' : World) : Prop :=
 Below w.heap.size w w' ∧ ∃ v0 v1 v2 v3 v4 v5, x = .returned (.tuple #[.agg #[v0, v1, v2, v3, v4, v5], .int .i64 r.2]) ∧ RQ w' (Two lo lo1 w.heap.size w'.heap.size) r.1 [v0, v1, v2, v3, v4, v5]
theorem EvPost.two {w w' : World} {lo lo1 : Nat} {r : Rz} {x : Ending} (h : EvPost w r x w') : EvPostQ lo lo1 w r x w' := by
 obtain ⟨hb, v0, v1, v2, v3, v4, v5, e, hv⟩ := h
 exact ⟨hb, v0, v1, v2, v3, v4, v5, e, RQ.keep (fun _ _ _ => rfl) (fun b hb => Or.inr hb) _ _ (RQ.of_rv _ _ hv)⟩
theorem EvPostQ.one {w w' : World} {r : Rz} {x : Ending} (h : EvPostQ 0 0 w r x w') : EvPost w r x w' := by
 obtain ⟨hb, v0, v1, v2, v3, v4, v5, e, hv⟩ := h
 exact ⟨hb, v0, v1, v2, v3, v4, v5, e, RQ.to_rv (fun b hb => by rcases hb with h | h; exact absurd h.2 (Nat.not_lt_zero _); exact h) _ _ hv⟩
theorem Ms {w : World} {Q : Nat → Prop} {vs : List VT} {A : Option Addr} {c : Nat} (h : vs.length = 0 ∨ ∃ b, A = some ⟨b, 0, none⟩ ∧ Q b ∧ RQL w Q (Au vs) b 0) (hc : vs.length ≤ c) (hl : vs.length ≤ 1000) :
   RQ w Q (Kh (Au vs)) [.int .u8 5, .bool false, .int .i64 0, .string ⟨#[]⟩, .slice A vs.length c, .slice none 0 0] := by
 unfold RQ
 refine ⟨A, c, none, 0, by rw [CH]; rfl, by decide, by unfold I64; decide, by decide, by rw [CH]; unfold LIM; omega, Nat.zero_le _, by rw [CH]; exact hc, Nat.zero_le _, ?_, Or.inl rfl⟩
 rcases h with h | ⟨b, e, h1, h3⟩
 · exact Or.inl (by rw [CH]; exact h)
 · exact Or.inr ⟨b, 0, e, h1, h3⟩
theorem I8 {lo lo1 n hi b : Nat} (h : Two lo lo1 n hi b) (hl : lo1 ≤ hi) : b < hi := by rcases h with h | h <;> omega
theorem Lr {lo lo1 n hi hi' : Nat} (h : hi ≤ hi') (b : Nat) (hb : Two lo lo1 n hi b) : Two lo lo1 n hi' b := by rcases hb with hb | hb; exact Or.inl hb; exact Or.inr ⟨hb.1, by omega⟩
theorem RQ.box {w w9 : World} {Q Q' : Nat → Prop} {t : VT} {cs : List Value} {g o : Nat} {us : List Value} (h : RQ w Q t cs) (hb : Below w.heap.size w w9) (hq : ∀ b, Q b → b < w.heap.size ∧ b ≠ g ∧ ((w9.setCells g o us).heap.size = w9.heap.size → Q' b)) : RQ (w9.setCells g o us) Q' t cs :=
 RQ.keep (fun b o' hb' => (Ar (hq b hb').2.1 _ _ _ _).trans (hb.cell (p := ⟨b, o', none⟩) (hq b hb').1)) (fun b h => (hq b h).2.2 (Ay _ _ _)) t cs h
theorem RP {lo lo1 n m h8 h9 hf b : Nat} (h : Two lo lo1 m h8 b) (hl : lo1 ≤ n) (hm : m = n + 3) (h1 : m ≤ h8) (h2 : h8 ≤ h9) : b < h8 ∧ b ≠ n + 1 + 1 ∧ (hf = h9 → Two lo lo1 n hf b) := by
 rcases h with h | h
 · exact ⟨by omega, by omega, fun _ => Or.inl h⟩
 · exact ⟨by omega, by omega, fun e => Or.inr ⟨by omega, by omega⟩⟩
theorem FS (lo lo1 : Nat) (rs : List Rz) (A : Option Addr) (m c : Nat) (row : VT) (r0 r1 r2 r3 r4 r5 : Value) (w : World) (hlo : lo1 ≤ w.heap.size) (hlen : rs.length ≤ 1000) (hL : Laid w) (hr : RV w 0 w.heap.size row [r0, r1, r2, r3, r4, r5])
   (ha : ∀ w', Below w.heap.size w w' → Calls Tryz.prog 209 #[.slice A m c, .agg #[r0, r1, r2, r3, r4, r5]] w' (AllPostQ lo lo1 w' (AV rs))) :
   Calls Tryz.prog 208 #[.agg #[.slice none 0 0, .slice A m c], .agg #[r0, r1, r2, r3, r4, r5]] w (EvPostQ lo lo1 w (Cb none rs)) := by
 have hr0 := hr
 obtain ⟨kr, br, nr, sr, lr, fr, ar1, cr1, ar2, cr2, hre, er, hjx⟩ := RV.mk_parts hr
 simp only [List.cons.injEq, and_true] at er
 obtain ⟨rfl, rfl, rfl, rfl, rfl, rfl⟩ := er
 clear hjx hr hre
 obtain ⟨W, hW, h0, h1, h2, hB, hS⟩ := If w (.cells #[.slice none 0 0, .slice A m c] 135) (.cells #[.int .u8 kr, .bool br, .int .i64 nr, .string sr, .slice ar1 lr.len cr1, .slice ar2 fr.len cr2] 27) Ah
 have hal := ha W hB
 have HCK := Lib.hid (fun (t : VT) (cs : List Value) (w' : World) (hb : Below W.heap.size W w') (hv : RV w' 0 w'.heap.size t cs) => Bu t w' cs 0 w'.heap.size hv (Nat.le_refl _) (hL.below (Aa hB hB.size hb)).tabs)
 have HB := Lib.hid hB
 have HS := Lib.hid hS
 have H0 := Lib.hid h0
 have H1 := Lib.hid h1
 have H2 := Lib.hid h2
 have HWE := Lib.hid hW
 have hvl := D5 rs
 have her := Fn rs
 unfold Cb
 generalize AV rs = r at *
 clear ha hL hr0 hW h0 h1 h2 hB hS
 cases r with
 | error e =>
   have hal2 : Calls Tryz.prog 209 #[.slice A m c, .agg #[.int .u8 kr, .bool br, .int .i64 nr, .string sr, .slice ar1 lr.len cr1, .slice ar2 fr.len cr2]] W (fun x w' => Below W.heap.size W w' ∧ x = .returned (.tuple #[.slice none 0 0, .int .i64 e])) := hal
   have HAL := Lib.hid hal2
   have hne : (e != 0) = true := by simpa using her e rfl
   clear hal hal2 her hvl
   show Calls _ _ _ _ (EvPostQ lo lo1 w (Am, e))
   go_enter Tryz.func208, Tryz.ntmps208
   go_upto_region 1 with (fail)
   have hw := HWE.out
   rw [hw]
   clear hw HWE
   obtain ⟨p0, p1⟩ := BM H0.out
   obtain ⟨q0, q1, q2, q3, q4, q5, q6⟩ := Ae H1.out
   go_wp2_with (go_at_call 209; (with_reducible refine (HAL.out).mono ?_); rintro e' w7 ⟨hb7, rfl⟩; obtain ⟨z0, z1, z2, z3, z4, z5, z6⟩ := Ae (blk hb7 H2.out); have HB7 := Lib.hid (Aa HB.out HB.out.size hb7); clear hb7)
   refine bodyPost_ret (v := .tuple #[Bs, .int .i64 e]) (by simp [results, Tryz.results208, go_sem, Ai, z0, z1, z2, z3, z4, z5]) rfl ?_
   exact (Bx (Ag (by omega) [_, _, _, _, _, _] 0 _ HB7.out)).two
 | ok vs =>
   have hvl2 := hvl vs rfl
   have hal2 : Calls Tryz.prog 209 #[.slice A m c, .agg #[.int .u8 kr, .bool br, .int .i64 nr, .string sr, .slice ar1 lr.len cr1, .slice ar2 fr.len cr2]] W (fun x w' => Below W.heap.size W w' ∧ ∃ A c, x = .returned (.tuple #[.slice A vs.length c, .int .i64 0]) ∧ vs.length ≤ c ∧ (vs.length = 0 ∨ ∃ b, A = some ⟨b, 0, none⟩ ∧ W.heap.size ≤ b ∧ b < w'.heap.size ∧ RQL w' (Two lo lo1 W.heap.size w'.heap.size) (Au vs) b 0)) := hal
   have HAL := Lib.hid hal2
   have HVL : Hid (vs.length ≤ 1000) := Lib.hid (by omega)
   clear hal hal2 her hvl hvl2
   show Calls _ _ _ _ (EvPostQ lo lo1 w (C3 (Kh (Au vs))))
   obtain ⟨y, hy⟩ : ∃ y, Ao (Kh (Au vs)) 0 = y := ⟨_, rfl⟩
   unfold C3
   rw [hy]
   by_cases h0 : y = 0
   · subst h0
     rw [if_pos rfl]
     have HY := Lib.hid hy
     clear hy
     go_enter Tryz.func208, Tryz.ntmps208
     go_upto_region 1 with (fail)
     have hw := HWE.out
     rw [hw]
     clear hw HWE
     obtain ⟨p0, p1⟩ := BM H0.out
     obtain ⟨q0, q1, q2, q3, q4, q5, q6⟩ := Ae H1.out
     go_upto_region 5 with (go_at_call 209; (with_reducible refine (HAL.out).mono ?_); rintro e' w7 ⟨hb7, A7, c7, rfl, hc7, hr7⟩; have HB7 := Lib.hid hb7; have HC7 := Lib.hid hc7; have HR7 := Lib.hid hr7; clear hb7 hc7 hr7)
     have hb8 := Ad (w := w7) (.cells #[.int .u8 5, .bool false, .int .i64 0, .string ⟨#[]⟩, .slice A7 vs.length c7, .slice none 0 0] 27)
     have h8 := Ab w7 (.cells #[.int .u8 5, .bool false, .int .i64 0, .string ⟨#[]⟩, .slice A7 vs.length c7, .slice none 0 0] 27)
     have hrv := RQ.keep (Q := Two lo lo1 W.heap.size w7.heap.size) (Q' := Two lo lo1 W.heap.size (w7.alloc (.cells #[.int .u8 5, .bool false, .int .i64 0, .string ⟨#[]⟩, .slice A7 vs.length c7, .slice none 0 0] 27)).heap.size) (fun b o hq => hb8.cell (p := ⟨b, o, none⟩) (I8 hq (by have := HB7.out.size; have := HS.out; omega))) (Lr hb8.size) _ _ (Ms (HR7.out.imp id (fun h => h.elim fun b h => ⟨b, h.1, Or.inr ⟨h.2.1, h.2.2.1⟩, h.2.2.2⟩)) HC7.out HVL.out)
     generalize w7.alloc (.cells #[.int .u8 5, .bool false, .int .i64 0, .string ⟨#[]⟩, .slice A7 vs.length c7, .slice none 0 0] 27) = w8 at *
     have hbw8 := Aa HB7.out HB7.out.size hb8
     have hck := HCK.out _ _ w8 hbw8 (RQ.to_rv (fun b hb => ⟨Nat.zero_le _, I8 hb (by have := hbw8.size; have := HS.out; omega)⟩) _ _ hrv)
     rw [HY.out] at hck
     have HK := Lib.hid hck
     have HRV := Lib.hid hrv
     have HB8 := Lib.hid hbw8
     have HH8 := Lib.hid h8
     have HH2 := Lib.hid (blk hbw8 H2.out)
     clear p0 p1 q0 q1 q2 q3 q4 q5 q6
     obtain ⟨p0, p1⟩ := BM (blk hbw8 H0.out)
     obtain ⟨q0, q1, q2, q3, q4, q5, q6⟩ := Ae h8
     clear hb8 h8 hrv hbw8 hck HY HCK HAL HR7 HC7 HVL HB7
     go_wp2_with (go_at_call 17; (with_reducible refine (HK.out).mono ?_); rintro e' w9 ⟨rfl, hb9⟩; have HB9 := Lib.hid hb9; obtain ⟨z0, z1, z2, z3, z4, z5, z6⟩ := Ae (blk hb9 HH2.out); clear q0 q1 q2 q3 q4 q5 q6; obtain ⟨q0, q1, q2, q3, q4, q5, q6⟩ := Ae (blk hb9 HH8.out); clear hb9)
     refine bodyPost_ret (v := .tuple #[.agg #[.int .u8 5, .bool false, .int .i64 0, .string ⟨#[]⟩, .slice A7 vs.length c7, .slice none 0 0], .int .i64 0]) (by simp [results, Tryz.results208, go_sem, Ai, z0, z1, z2, z3, z4, z5]) rfl ?_
     have hbz := Aa HB.out HB.out.size (Aa HB8.out HB8.out.size HB9.out)
     exact ⟨Ag (by omega) [_, _, _, _, _, _] 0 _ hbz, _, _, _, _, _, _, rfl, RQ.box (us := [_, _, _, _, _, _]) (o := 0) HRV.out HB9.out (fun b hq => RP hq hlo HS.out HB8.out.size HB9.out.size)⟩
   · rw [if_neg h0]
     have hn0 : (y != 0) = true := by simpa using h0
     have HY := Lib.hid hy
     clear hy h0
     go_enter Tryz.func208, Tryz.ntmps208
     go_upto_region 1 with (fail)
     have hw := HWE.out
     rw [hw]
     clear hw HWE
     obtain ⟨p0, p1⟩ := BM H0.out
     obtain ⟨q0, q1, q2, q3, q4, q5, q6⟩ := Ae H1.out
     go_upto_region 5 with (go_at_call 209; (with_reducible refine (HAL.out).mono ?_); rintro e' w7 ⟨hb7, A7, c7, rfl, hc7, hr7⟩; have HB7 := Lib.hid hb7; have HC7 := Lib.hid hc7; have HR7 := Lib.hid hr7; clear hb7 hc7 hr7)
     have hb8 := Ad (w := w7) (.cells #[.int .u8 5, .bool false, .int .i64 0, .string ⟨#[]⟩, .slice A7 vs.length c7, .slice none 0 0] 27)
     have h8 := Ab w7 (.cells #[.int .u8 5, .bool false, .int .i64 0, .string ⟨#[]⟩, .slice A7 vs.length c7, .slice none 0 0] 27)
     have hrv := RQ.keep (Q := Two lo lo1 W.heap.size w7.heap.size) (Q' := Two lo lo1 W.heap.size (w7.alloc (.cells #[.int .u8 5, .bool false, .int .i64 0, .string ⟨#[]⟩, .slice A7 vs.length c7, .slice none 0 0] 27)).heap.size) (fun b o hq => hb8.cell (p := ⟨b, o, none⟩) (I8 hq (by have := HB7.out.size; have := HS.out; omega))) (Lr hb8.size) _ _ (Ms (HR7.out.imp id (fun h => h.elim fun b h => ⟨b, h.1, Or.inr ⟨h.2.1, h.2.2.1⟩, h.2.2.2⟩)) HC7.out HVL.out)
     generalize w7.alloc (.cells #[.int .u8 5, .bool false, .int .i64 0, .string ⟨#[]⟩, .slice A7 vs.length c7, .slice none 0 0] 27) = w8 at *
     have hbw8 := Aa HB7.out HB7.out.size hb8
     have hck := HCK.out _ _ w8 hbw8 (RQ.to_rv (fun b hb => ⟨Nat.zero_le _, I8 hb (by have := hbw8.size; have := HS.out; omega)⟩) _ _ hrv)
     rw [HY.out] at hck
     have HK := Lib.hid hck
     have HRV := Lib.hid hrv
     have HB8 := Lib.hid hbw8
     have HH8 := Lib.hid h8
     have HH2 := Lib.hid (blk hbw8 H2.out)
     clear p0 p1 q0 q1 q2 q3 q4 q5 q6
     obtain ⟨p0, p1⟩ := BM (blk hbw8 H0.out)
     obtain ⟨q0, q1, q2, q3, q4, q5, q6⟩ := Ae h8
     clear hb8 h8 hrv hbw8 hck HY HCK HAL HR7 HC7 HVL HB7
     go_wp2_with (go_at_call 17; (with_reducible refine (HK.out).mono ?_); rintro e' w9 ⟨rfl, hb9⟩; have HB9 := Lib.hid hb9; obtain ⟨z0, z1, z2, z3, z4, z5, z6⟩ := Ae (blk hb9 HH2.out); clear hb9)
     refine bodyPost_ret (v := .tuple #[Bs, .int .i64 y]) (by simp [results, Tryz.results208, go_sem, Ai, z0, z1, z2, z3, z4, z5]) rfl ?_
     exact (Bx (Ag (by omega) [_, _, _, _, _, _] 0 _ (Aa HB.out HB.out.size (Aa HB8.out HB8.out.size HB9.out)))).two
theorem KT (S : Nat → Prop) (fs : List (VT → Rz)) (A : Option Addr) (c : Nat) (row : VT) (r0 r1 r2 r3 r4 r5 : Value) (w : World) (hN : NodeRow S w fs A) (hlen : fs.length ≤ 1000) (hL : Laid w) (hr : RV w 0 w.heap.size row [r0, r1, r2, r3, r4, r5]) :
  Calls Tryz.prog 208 #[.agg #[.slice none 0 0, .slice A fs.length c], .agg #[r0, r1, r2, r3, r4, r5]] w (EvPost w (Cb none (fs.map fun f => f row))) :=
 (FS 0 0 (fs.map fun f => f row) A fs.length c row r0 r1 r2 r3 r4 r5 w (Nat.zero_le _) (by rw [List.length_map]; exact hlen) hL hr (fun w' hb => (FY S fs A c row r0 r1 r2 r3 r4 r5 w' (hN.later (Later.of_below hb)) hlen (hL.below hb) (hr.grow hb)).mono fun _ _ h => h.two)).mono fun _ _ h => h.one
/- Names that stand apart; a struct made of them, name by name (plain). -/
abbrev Fz (s : ByteArray) : Lit := .string s.data.toList
theorem Mm (s : ByteArray) : WideAt.IsKeyLit (Fz s) := trivial
theorem Gx (l : List ByteArray) (s : ByteArray) : Cd (l ++ [s]) = FH (Cd l) s := by
 unfold Cd
 rw [List.foldl_append]
 rfl
theorem Ib (l : List ByteArray) : Maps.Tidy (Cd l) ∧ ∀ p ∈ l, Maps.has (Cd l) (Fz p) = true := by
 suffices h : ∀ l : List ByteArray, Maps.Tidy (Cd l.reverse) ∧ ∀ p ∈ l.reverse, Maps.has (Cd l.reverse) (Fz p) = true by
   have := h l.reverse
   rwa [List.reverse_reverse] at this
 intro l
 induction l with
 | nil => exact ⟨Maps.tidy_empty, fun p hp => by simp at hp⟩
 | cons s r ih =>
   rw [List.reverse_cons, Gx]
   refine ⟨ih.1.put (Mm s) _, fun p hp => ?_⟩
   by_cases e : Fz p = Fz s
   · rw [e]; exact Maps.has_put_same ih.1.isMap (Mm s) _
   · have hp2 : p ∈ r.reverse := by
      rcases List.mem_append.1 hp with h | h
      · exact h
      · simp only [List.mem_singleton] at h
        exact absurd (by rw [h]) e
     unfold FH
     rw [Maps.has_put_other e]
     exact ih.2 p hp2
theorem O3 (l : List ByteArray) : Maps.size (Cd l) ≤ l.length := by
 suffices h : ∀ l : List ByteArray, Maps.size (Cd l.reverse) ≤ l.length by
   have := h l.reverse
   rwa [List.reverse_reverse, List.length_reverse] at this
 intro l
 induction l with
 | nil => exact Nat.le_refl _
 | cons s r ih =>
   rw [List.reverse_cons, Gx]
   unfold FH
   rw [Maps.size_put (Ib r.reverse).1]
   simp only [List.length_cons]
   split <;> omega
theorem N8 : ∀ (l : List ByteArray), Cs l = true → ∀ (a : List ByteArray) (s : ByteArray) (b : List ByteArray), l = a ++ s :: b → ∀ p ∈ a, (p.toList == s.toList) = false := by
 suffices h : ∀ l : List ByteArray, Maps.size (Cd l.reverse) = l.length → ∀ (a : List ByteArray) (s : ByteArray) (b : List ByteArray), l.reverse = a ++ s :: b → ∀ p ∈ a, (p.toList == s.toList) = false by
   intro l hl
   have := h l.reverse
   rw [List.reverse_reverse, List.length_reverse] at this
   refine this ?_
   unfold Cs at hl
   have := beq_iff_eq.1 hl
   omega
 intro l
 induction l with
 | nil => intro _ a s b e; simp at e
 | cons s r ih =>
   intro hs a t b e p hp
   rw [List.reverse_cons] at e hs
   rw [Gx] at hs
   unfold FH at hs
   rw [Maps.size_put (Ib r.reverse).1] at hs
   have hle := O3 r.reverse
   rw [List.length_reverse] at hle
   simp only [List.length_cons] at hs
   have hnot : Maps.has (Cd r.reverse) (Fz s) = false := by
     cases hh : Maps.has (Cd r.reverse) (Fz s) with
     | false => rfl
     | true =>
       have hh' : Maps.has (Cd r.reverse) (Lit.string s.data.toList) = true := hh
       rw [hh'] at hs
       simp at hs
       omega
   have hsz : Maps.size (Cd r.reverse) = r.length := by
     have hh' : Maps.has (Cd r.reverse) (Lit.string s.data.toList) = false := hnot
     rw [hh'] at hs
     simp at hs
     omega
   rcases List.eq_nil_or_concat b with rfl | ⟨b', u, rfl⟩
   · have e2 : r.reverse = a ∧ s = t := by
       have := List.append_inj' (s₁ := r.reverse) (t₁ := [s]) (s₂ := a) (t₂ := [t]) e rfl
       exact ⟨this.1, by simpa using this.2⟩
     obtain ⟨rfl, rfl⟩ := e2
     have h1 := (Ib r.reverse).2 p hp
     rw [beq_eq_false_iff_ne]
     intro he
     have : Fz p = Fz s := by
       show Lit.string _ = Lit.string _
       rw [← ByteArray.toList_eq, ← ByteArray.toList_eq, he]
     rw [this, hnot] at h1
     cases h1
   · have e2 : r.reverse = a ++ t :: b' := by
       have := List.append_inj' (s₁ := r.reverse) (t₁ := [s]) (s₂ := a ++ t :: b') (t₂ := [u]) (by rw [e]; simp) rfl
       exact this.1
     exact ih hsz a t b' e2 p hp
theorem Iz : ∀ (a : List ByteArray) (b : List VT) (f : FL) (n : ByteArray) (v : VT), a.length = b.length → BO f (a ++ [n]) (b ++ [v]) = Nb (BO f a b) n v
 | [], [], f, n, v, _ => rfl
 | [], _ :: _, f, n, v, h => by simp at h
 | _ :: _, [], f, n, v, h => by simp at h
 | x :: a, y :: b, f, n, v, h => by
   show BO (Nb f x y) (a ++ [n]) (b ++ [v]) = _
   rw [Iz a b _ n v (by simpa using h)]
   rfl
def Cg : FL → List ByteArray
 | .nil => []
 | .cons s _ r => s :: Cg r
theorem Mi (n : ByteArray) : ∀ (f : FL) (i : Nat), (∀ p ∈ Cg f, (p.toList == n.toList) = false) → BS n f i = -1
 | .nil, i, h => rfl
 | .cons s t r, i, h => by
   unfold BS
   rw [if_neg (by rw [h s (by simp [Cg])]; simp)]
   exact Mi n r (i + 1) (fun p hp => h p (by simp [Cg, hp]))
theorem Iv (n : ByteArray) (x : VT) : ∀ (f : FL) (p : ByteArray), p ∈ Cg (CP n x f) → p = n ∨ p ∈ Cg f
 | .nil, p, h => by
   unfold CP Cg at h
   simp [Cg] at h
   exact Or.inl h
 | .cons s t r, p, h => by
   unfold CP at h
   split at h
   · simp only [Cg, List.mem_cons] at h ⊢
     rcases h with h | h | h
     · exact Or.inl h
     · exact Or.inr (Or.inl h)
     · exact Or.inr (Or.inr h)
   · simp only [Cg, List.mem_cons] at h ⊢
     rcases h with h | h
     · exact Or.inr (Or.inl h)
     · rcases Iv n x r p h with h | h
       · exact Or.inl h
       · exact Or.inr (Or.inr h)
theorem Li (ns : List ByteArray) (vs : List VT) (hl : ns.length = vs.length) (hap : Cs ns = true) : ∀ i, i ≤ ns.length → (∀ p ∈ Cg (BO .nil (ns.take i) (vs.take i)), p ∈ ns.take i) ∧ (BO .nil (ns.take i) (vs.take i)).len = i ∧
   ∀ h : i < ns.length, BS ns[i] (BO .nil (ns.take i) (vs.take i)) 0 = -1 ∧ BO .nil (ns.take (i + 1)) (vs.take (i + 1)) = CP ns[i] (vs[i]'(by omega)) (BO .nil (ns.take i) (vs.take i)) := by
 have new : ∀ i, (∀ p ∈ Cg (BO .nil (ns.take i) (vs.take i)), p ∈ ns.take i) → ∀ h : i < ns.length, BS ns[i] (BO .nil (ns.take i) (vs.take i)) 0 = -1 ∧ BO .nil (ns.take (i + 1)) (vs.take (i + 1)) = CP ns[i] (vs[i]'(by omega)) (BO .nil (ns.take i) (vs.take i)) := by
   intro i hp h
   have hsp : ns = ns.take i ++ ns[i] :: ns.drop (i + 1) := by
    rw [← List.drop_eq_getElem_cons h, List.take_append_drop]
   have hno := Mi ns[i] _ 0 (fun p hpp => N8 ns hap (ns.take i) ns[i] (ns.drop (i + 1)) hsp p (hp p hpp))
   refine ⟨hno, ?_⟩
   rw [List.take_succ_eq_append_getElem h, List.take_succ_eq_append_getElem (by omega : i < vs.length), Iz _ _ _ _ _ (by simp; omega)]
   unfold Nb
   rw [hno, if_neg (by decide)]
 intro i
 induction i with
 | zero =>
   intro _
   have h0 : ∀ p ∈ Cg (BO .nil (ns.take 0) (vs.take 0)), p ∈ ns.take 0 := by
    rw [List.take_zero, List.take_zero]
    intro p hp
    cases hp
   exact ⟨h0, rfl, new 0 h0⟩
 | succ i ih =>
   intro hi
   obtain ⟨h1, h2, h3⟩ := ih (by omega)
   obtain ⟨h4, h5⟩ := h3 (by omega)
   have h6 : ∀ p ∈ Cg (BO .nil (ns.take (i + 1)) (vs.take (i + 1))), p ∈ ns.take (i + 1) := by
    rw [h5]
    intro p hp
    rw [List.take_succ_eq_append_getElem (by omega : i < ns.length)]
    rcases Iv _ _ _ p hp with h | h
    · exact List.mem_append.2 (Or.inr (by simp [h]))
    · exact List.mem_append.2 (Or.inl (h1 p h))
   exact ⟨h6, by rw [h5, Dv, h2], new (i + 1) h6⟩
end Go.Proofs.YtbemgcjckchdjaaGreatDoor
