import Derived.Test.YtbemgcjckchdjaaGreatDoorKPv
/- parse.Check, of a DELETE that is right. -/
namespace Go.Proofs.YtbemgcjckchdjaaGreatDoor
open Go.RowKit
set_option linter.unusedSimpArgs false
set_option linter.unusedVariables false
set_option maxHeartbeats 4000000 in
set_option maxRecDepth 100000 in
theorem check_del (t : ByteArray) (A : Option Addr) (n c : Nat) (w : World) (hn : ∀ w', Below w.heap.size w w' → Calls Tryz.prog 58 #[.string t] w' fun e w2 => e = .returned (.bool true) ∧ Below w'.heap.size w' w2)
    (hr : ∀ w', Below w.heap.size w w' → Calls Tryz.prog 23 #[.slice A n c] w' fun e w2 => e = .returned (.bool true) ∧ Below w'.heap.size w' w2) (h0 : 0 < n) (hlim : n ≤ 1000) :
    Calls Tryz.prog 67 #[stmtV 5 t (.slice A n c)] w fun e w' => e = .returned (.int .i64 0) ∧ Below w.heap.size w w' := by
  have HN := Lib.hid hn
  have HR := Lib.hid hr
  have q0 : ((n : Int) == 0) = false := by simp; omega
  clear hn hr
  go_enter Tryz.func67, Tryz.ntmps67
  go_upto_region 2 with (fail)
  have hX := blk_alloc (o := stmtO 5 t (.slice none 0 0)) (heap_last w (stmtO 5 t (.slice A n c)))
  have hY := heap_last (w.alloc (stmtO 5 t (.slice A n c))) (stmtO 5 t (.slice none 0 0))
  have hD := two_allocs (w := w) (stmtO 5 t (.slice A n c)) (stmtO 5 t (.slice none 0 0))
  have esz : (w.alloc (stmtO 5 t (.slice A n c))).heap.size = w.heap.size + 1 := by simp
  rw [esz] at hY
  generalize (w.alloc (stmtO 5 t (.slice A n c))).alloc (stmtO 5 t (.slice none 0 0)) = W at *
  have HD := Lib.hid hD
  have HX := Lib.hid hX
  have HY := Lib.hid hY
  clear hD hX hY esz
  obtain ⟨x0, x1, x2, x3, x4, x5, x6, x7⟩ := cells7' HX.out
  obtain ⟨y0, y1, y2, y3, y4, y5, y6, y7⟩ := cells7' HY.out
  have lW : w.heap.size + 1 < W.heap.size := lt_of_block HY.out
  go_upto_region 17 with (first | (go_at_call 58; refine (HN.out _ HD.out).mono ?_; rintro e w2 ⟨rfl, hb2⟩; have hx2 := blk hb2 HX.out; have hy2 := blk hb2 HY.out; have HX2 := Lib.hid hx2; have HY2 := Lib.hid hy2; have HD2 := Lib.hid (below_call0 HD.out HD.out.size hb2); clear hb2 x0 x1 x2 x3 x4 x5 x6 x7 y0 y1 y2 y3 y4 y5 y6 y7; obtain ⟨x0, x1, x2, x3, x4, x5, x6, x7⟩ := cells7' hx2; clear hx2 hy2) | (go_at_call 23; refine (HR.out _ HD2.out).mono ?_; rintro e w3 ⟨rfl, hb3⟩; have hx3 := blk hb3 HX2.out; have hy3 := blk hb3 HY2.out; have HX3 := Lib.hid hx3; have HY3 := Lib.hid hy3; have HD3 := Lib.hid (below_call0 HD2.out HD2.out.size hb3); clear hb3 x0 x1 x2 x3 x4 x5 x6 x7; obtain ⟨x0, x1, x2, x3, x4, x5, x6, x7⟩ := cells7' hx3; obtain ⟨y0, y1, y2, y3, y4, y5, y6, y7⟩ := cells7' hy3; clear hx3 hy3))
  clear HX HY HD HX2 HY2 HD2 HN HR
  go_upto_region 18 with (fail)
  have hx4 := blk_set (g := w.heap.size + 1) (o := 4) (v := .slice A n c) (by omega) HX3.out
  have hy4 := heap_setCell_same _ _ 4 _ _ (.slice A n c) HY3.out
  have hd4 := HD3.out.setCell (p := ⟨w.heap.size + 1, 4, none⟩) (Nat.le_succ _) (.slice A n c)
  generalize w3.setCell ⟨w.heap.size + 1, 4, none⟩ (.slice A n c) = w4 at *
  have HD4 := Lib.hid hd4
  clear HX3 HY3 HD3 x0 x1 x2 x3 x4 x5 x6 x7 y0 y1 y2 y3 y4 y5 y6 y7 hd4
  obtain ⟨x0, x1, x2, x3, x4, x5, x6, x7⟩ := cells7' hx4
  obtain ⟨y0, y1, y2, y3, y4, y5, y6, y7⟩ := cells7' (a4 := .slice A n c) hy4
  clear hx4 hy4
  go_wp2_with fail
  go_ret
  exact ⟨rfl, HD4.out⟩
end Go.Proofs.YtbemgcjckchdjaaGreatDoor
/- parse.Parse, of a DELETE with a condition; the laws' own of. -/
namespace Go.Proofs.YtbemgcjckchdjaaGreatDoor
open Go.RowKit
set_option linter.unusedSimpArgs false
set_option linter.unusedVariables false
theorem tcells_at : ∀ (l : List TK) (i : Nat) (h : i < l.length), (tcells l)[i * 4]? = some (.int .u8 l[i].k) ∧ (tcells l)[i * 4 + 1]? = some (.string l[i].t) ∧ (tcells l)[i * 4 + 2]? = some (.int .i64 l[i].n) ∧ (tcells l)[i * 4 + 3]? = some (.int .i64 l[i].a)
  | [], i, h => absurd h (Nat.not_lt_zero _)
  | t :: r, 0, h => ⟨rfl, rfl, rfl, rfl⟩
  | t :: r, i + 1, h => by
    have ih := tcells_at r i (by simpa using h)
    have e : ∀ j, (tcells (t :: r))[(i + 1) * 4 + j]? = (tcells r)[i * 4 + j]? := fun j => by
      show (t.cells ++ tcells r)[(i + 1) * 4 + j]? = _
      rw [List.getElem?_append_right (by simp [TK.cells]; omega)]
      congr 1
      simp [TK.cells]; omega
    exact ⟨(e 0).trans ih.1, (e 1).trans ih.2.1, (e 2).trans ih.2.2.1, (e 3).trans ih.2.2.2⟩
theorem scells_at : ∀ (l : List ST) (i : Nat) (h : i < l.length), (scells l)[i * 3]? = some (.int .u8 l[i].k) ∧ (scells l)[i * 3 + 1]? = some (.string l[i].t) ∧ (scells l)[i * 3 + 2]? = some (.int .i64 l[i].n)
  | [], i, h => absurd h (Nat.not_lt_zero _)
  | t :: r, 0, h => ⟨rfl, rfl, rfl⟩
  | t :: r, i + 1, h => by
    have ih := scells_at r i (by simpa using h)
    have e : ∀ j, (scells (t :: r))[(i + 1) * 3 + j]? = (scells r)[i * 3 + j]? := fun j => by
      show ([Value.int .u8 t.k, .string t.t, .int .i64 t.n] ++ scells r)[(i + 1) * 3 + j]? = _
      rw [List.getElem?_append_right (by simp; omega)]
      congr 1
      simp; omega
    exact ⟨(e 0).trans ih.1, (e 1).trans ih.2.1, (e 2).trans ih.2.2⟩
theorem tok_row {w : World} {B : Nat} {v : Value} {l : List TK} (h : w.ownsRow B 158 4 v l.length (tcells l)) : TokRow w w.heap.size v l := by
  rcases h.2 with ⟨rfl, h0⟩ | ⟨g, cap, cur, rfl, hB, hg, h1, h2, hcs, htk⟩
  · exact ⟨none, 0, by rw [h0], by omega, by unfold maxLen; omega, Or.inl (List.length_eq_zero_iff.1 h0)⟩
  · refine ⟨_, cap, rfl, h1, h2, Or.inr ⟨g, 0, rfl, lt_of_block hg, fun i hi => ?_⟩⟩
    obtain ⟨a0, a1, a2, a3⟩ := tcells_at l i hi
    rw [Nat.zero_add]
    have hc := fun j hj => h.cellAt j hj
    exact ⟨(hc (i * 4) (by omega)).trans a0, (hc (i * 4 + 1) (by omega)).trans a1, (hc (i * 4 + 2) (by omega)).trans a2, (hc (i * 4 + 3) (by omega)).trans a3⟩
theorem step_row {w : World} {B : Nat} {A : Option Addr} {c : Nat} {l : List ST} (h : w.ownsRow B 43 3 (.slice A l.length c) l.length (scells l)) : RowS w l A := by
  rcases h.2 with ⟨_, h0⟩ | ⟨g, cap, cur, e, hB, hg, h1, h2, hcs, htk⟩
  · exact Or.inl h0
  · cases e
    refine Or.inr ⟨g, 0, rfl, fun i hi => ?_⟩
    obtain ⟨a0, a1, a2⟩ := scells_at l i hi
    rw [Nat.zero_add]
    have hc := fun j hj => h.cellAt j hj
    exact ⟨(hc (i * 3) (by omega)).trans a0, (hc (i * 3 + 1) (by omega)).trans a1, (hc (i * 3 + 2) (by omega)).trans a2⟩
theorem RowS.keep {w w' : World} {l : List ST} {a : Option Addr} (h : RowS w l a) (hb : Below w.heap.size w w') : RowS w' l a := by
  rcases h with h | ⟨b, o, e, hc⟩
  · exact Or.inl h
  · refine Or.inr ⟨b, o, e, fun i hi => ?_⟩
    obtain ⟨q0, q1, q2⟩ := hc i hi
    exact ⟨keepC hb q0, keepC hb q1, keepC hb q2⟩
theorem nameB_size {s : ByteArray} (h : nameB s = true) : s.size ≤ 16384 := by
  rcases Nat.lt_or_ge 16384 s.size with hb | hb
  · unfold nameB lexR at h
    rw [if_pos hb] at h
    cases h
  · exact hb
theorem RowS.sets {w : World} {l : List ST} {a : Option Addr} {g k : Nat} {us : List Value} (h : RowS w l a) (hne : ∀ b o, a = some (⟨b, o, none⟩ : Addr) → b ≠ g) : RowS (w.setCells g k us) l a := by
  rcases h with h | ⟨b, o, e, hc⟩
  · exact Or.inl h
  · have f := fun o' => setCells_far (hne b o e) us k o' w
    exact Or.inr ⟨b, o, e, fun i hi => by obtain ⟨q0, q1, q2⟩ := hc i hi; exact ⟨(f _).trans q0, (f _).trans q1, (f _).trans q2⟩⟩
theorem delP_parts {l : List TK} {t : ByteArray} {st : List ST} (h : delP l = some (t, st)) : ∃ t1 t2 t3 t4 ts, l = t1 :: t2 :: t3 :: t4 :: ts ∧ nextP 2 [kwDELETE] (t1 :: t2 :: t3 :: t4 :: ts) = true ∧ nextP 2 [kwFROM] (t2 :: t3 :: t4 :: ts) = true ∧
    nextP 1 [] (t3 :: t4 :: ts) = true ∧ nextP 2 [kwWHERE] (t4 :: ts) = true ∧ orP 0 (ts, []) = some ([], st) ∧ t3.t = t ∧ nameB t = true ∧ rightB st = true ∧ st.length ≠ 0 := by
  unfold delP at h
  split at h
  · cases h
  rename_i e1
  obtain ⟨l1, rfl, rfl, n1⟩ := take_some e1
  split at h
  · cases h
  rename_i e2
  obtain ⟨l2, rfl, rfl, n2⟩ := take_some e2
  split at h
  · cases h
  rename_i e3
  obtain ⟨l3, rfl, rfl, n3⟩ := take_some e3
  split at h
  · cases h
  rename_i e4
  obtain ⟨l4, rfl, rfl, n4⟩ := take_some e4
  split at h
  · cases h
  rename_i r st' e5
  split at h
  · rename_i hc
    cases h
    simp only [Bool.and_eq_true, List.isEmpty_iff, decide_eq_true_eq] at hc
    obtain ⟨⟨⟨rfl, hn⟩, hr⟩, h0⟩ := hc
    exact ⟨_, _, _, _, l4, rfl, n1, n2, n3, n4, e5, rfl, hn, hr, h0⟩
  · cases h
set_option maxHeartbeats 4000000 in
set_option maxRecDepth 100000 in
theorem parse_del (s : ByteArray) (l : List TK) (t : ByteArray) (st : List ST) (w : World) (hs : s.size ≤ 4096) (hL : Laid w) (hlex : lexR s = .ok l) (hdel : delP l = some (t, st)) (hts : t.size ≤ LIM) (hsz : ∀ x ∈ st, x.t.size ≤ LIM) (hlen : st.length ≤ 128) :
    Calls Tryz.prog 42 #[.string s] w fun e w' => ∃ A c, e = .returned (.tuple #[stmtV 5 t (.slice A st.length c), .int .i64 0, .int .i64 0]) ∧ RowS w' st A ∧ st.length ≤ c ∧ Below w.heap.size w w' := by
  obtain ⟨t1, t2, t3, t4, ts, rfl, n1, n2, n3, n4, hor, rfl, hname, hright, h0⟩ := delP_parts hdel
  have hb0 := below_new (w := w) (stmtO 0 ⟨#[]⟩ (.slice none 0 0))
  have HLX0 := Lex_any s _ (by unfold LIM; omega) (hL.below hb0)
  rw [hlex] at HLX0
  have HLX := Lib.hid HLX0
  have HB0 := Lib.hid hb0
  have HX0 := Lib.hid (heap_last w (stmtO 0 ⟨#[]⟩ (.slice none 0 0)))
  have HL := Lib.hid hL
  have HST := Lib.hid (fun (p : Nat) (w' : World) (h : PS w' p (.slice none 0 0) (t1 :: t2 :: t3 :: t4 :: ts, [])) => stmt_calls p (.slice none 0 0) t1 t2 t3 t4 ts [] ([], st) w' h n1 n2 n3 n4 hor)
  have HNM := Lib.hid (fun (w' : World) (h : Laid w') => name_calls t3.t w' hts h)
  rw [hname] at HNM
  have HRT := Lib.hid (fun (A : Option Addr) (c : Nat) (w' : World) (h : Laid w') (hr : RowS w' st A) => right_calls st A c w' h (by unfold LIM; omega) hsz hr)
  rw [hright] at HRT
  obtain ⟨tt, htt⟩ : ∃ x, t3.t = x := ⟨_, rfl⟩
  rw [htt] at HST HNM ⊢
  have H0 := Lib.hid h0
  clear hL hlex hdel hsz n1 n2 n3 n4 hor hname hright hb0 HLX0 htt h0 hts
  go_enter Tryz.func42, Tryz.ntmps42
  go_upto_region 4 with (go_at_call 63; refine (HLX.out).mono ?_; rintro e w1 ⟨hb1, v1, rfl, ho1⟩; have HB1 := Lib.hid (below_call0 HB0.out HB0.out.size hb1); have HX1 := Lib.hid (blk hb1 HX0.out); have HT1 := Lib.hid (tok_row ho1); obtain ⟨A1, c1, rfl, _, _⟩ := owns_val ho1; clear hb1 ho1)
  clear HX0 HB0 HLX
  obtain ⟨m, hm⟩ : ∃ m, (t1 :: t2 :: t3 :: t4 :: ts).length = m := ⟨_, rfl⟩
  go_upto_region 5 with (fail)
  have hq := heap_last w1 (.cells #[.slice A1 (ts.length + 1 + 1 + 1 + 1) c1, .int .i64 s.size, .int .i64 0, .int .i64 0, .slice none 0 0] 129)
  have hb2 := below_new (w := w1) (.cells #[.slice A1 (ts.length + 1 + 1 + 1 + 1) c1, .int .i64 s.size, .int .i64 0, .int .i64 0, .slice none 0 0] 129)
  have hx2 := blk hb2 HX1.out
  have hps : PS (w1.alloc (.cells #[.slice A1 (ts.length + 1 + 1 + 1 + 1) c1, .int .i64 s.size, .int .i64 0, .int .i64 0, .slice none 0 0] 129)) w1.heap.size (.slice none 0 0) (t1 :: t2 :: t3 :: t4 :: ts, []) := ⟨_, _, _, hq, HT1.out.below hb2, World.ownsRow_nil _ _ _ _⟩
  have hbw := below_call0 HB1.out HB1.out.size hb2
  have l1 : w.heap.size < w1.heap.size := lt_of_block HX1.out
  generalize w1.alloc (.cells #[.slice A1 (ts.length + 1 + 1 + 1 + 1) c1, .int .i64 s.size, .int .i64 0, .int .i64 0, .slice none 0 0] 129) = w2 at *
  obtain ⟨q, hq1⟩ : ∃ q, w1.heap.size = q := ⟨_, rfl⟩
  rw [hq1] at hps l1
  have HPS := Lib.hid hps
  have HX2 := Lib.hid hx2
  have HBW := Lib.hid hbw
  clear hq hb2 hx2 hps hbw HX1 HT1 HB1
  go_upto_region 6 with (go_at_call 64; rw [hq1]; refine (HST.out _ _ HPS.out).mono ?_; rintro e w3 ⟨sv3, rfl, hp3, hf3⟩; obtain ⟨A3, c3, rfl, hc3, _⟩ := owns_val (by obtain ⟨_, _, _, _, _, h⟩ := hp3; exact h); have HX3 := Lib.hid (fr_new hf3 HX2.out (by omega) (by intro e; cases e)).1; have HP3 := Lib.hid hp3; have HF3 := Lib.hid hf3; clear hp3 hf3)
  have hb4 := below_new (w := w3) (stmtO 5 tt (.slice A3 st.length c3))
  have hx4 := blk hb4 HX3.out
  have hy4 := heap_last w3 (stmtO 5 tt (.slice A3 st.length c3))
  have hp4 := HP3.out.keep hb4
  have hf4 := HF3.out.trans (Fr.of_below (sv := .slice A3 st.length c3) hb4 HP3.out.lt)
  generalize w3.alloc (stmtO 5 tt (.slice A3 st.length c3)) = w4 at *
  have hb0 : Below w.heap.size w w4 := HBW.out.trans ((hf4.below.mono (Nat.le_of_lt l1)))
  obtain ⟨left4, E4, a4, hB4, ⟨la, lc, rfl, _, _, _⟩, hO4⟩ := hp4
  have HX4 := Lib.hid hx4
  have HB4 := Lib.hid hb0
  have HR4 := Lib.hid (step_row hO4)
  have HNB : Hid (∀ b o, A3 = some (⟨b, o, none⟩ : Addr) → b ≠ w.heap.size) := Lib.hid (fun b o e => by
    subst e
    have := (hO4.lt b rfl).1
    omega)
  clear hm HX3 HP3 HF3 HPS HX2 HBW hb4 hx4 hf4 hb0 hO4 HST
  obtain ⟨b0, b1, b2, b3, b4, b5⟩ := cells5 hB4
  simp only [List.length_nil] at b0
  obtain ⟨y0, y1, y2, y3, y4, y5, y6, y7⟩ := cells7' hy4
  have HCK := Lib.hid (check_del tt A3 st.length c3 w4 (fun w' hb => HNM.out w' (HL.out.below (below_call0 HB4.out HB4.out.size hb))) (fun w' hb => HRT.out A3 c3 w' (HL.out.below (below_call0 HB4.out HB4.out.size hb)) (HR4.out.keep hb)) (by have := H0.out; omega) (by omega))
  have HY4 := Lib.hid hy4
  clear hB4 hy4 HNM HRT
  go_wp2_with (go_at_call 67; refine (HCK.out).mono ?_; rintro e w5 ⟨rfl, hb5⟩; have hx5 := blk hb5 HX4.out; have hy5 := blk hb5 HY4.out; have HB5 := Lib.hid (below_call0 HB4.out HB4.out.size hb5); have HR5 := Lib.hid (HR4.out.keep hb5); clear hb5 y0 y1 y2 y3 y4 y5 y6 y7 b0 b1 b2 b3 b4 b5; obtain ⟨y0, y1, y2, y3, y4, y5, y6, y7⟩ := cells7' hy5; obtain ⟨x0, x1, x2, x3, x4, x5, x6, x7⟩ := cells7' hx5; clear hx5 hy5)
  refine bodyPost_ret (v := .tuple #[stmtV 5 tt (.slice A3 st.length c3), .int .i64 0, .int .i64 0]) (by simp [results, Tryz.results42, go_sem, cell_set_same, x0, x1, x2, x3, x4, x5, x6]) rfl ?_
  refine ⟨A3, c3, rfl, ?_, hc3, setCells_below (Nat.le_refl _) [_, _, _, _, _, _, _] 0 _ HB5.out⟩
  exact RowS.sets (us := [_, _, _, _, _, _, _]) HR5.out HNB.out
/-- the laws' condition: its steps -/
theorem of_calls (s : ByteArray) (st : List ST) (w : World) (hL : Laid w) (hs : s.size ≤ 1000) (hc : condP s = some st) (hsz : (st.all fun x => decide (x.t.size ≤ 1024)) = true) :
    Calls Tryz.prog 22 #[.string s] w fun e w' => ∃ A c, e = .returned (.slice A st.length c) ∧ RowS w' st A ∧ st.length ≤ c ∧ Below w.heap.size w w' := by
  unfold condP at hc
  split at hc
  · cases hc
  rename_i l hlex
  cases hd : delP l with
  | none => rw [hd] at hc; cases hc
  | some v =>
    obtain ⟨t, st'⟩ := v
    rw [hd] at hc
    obtain rfl : st' = st := by simpa using hc
    obtain ⟨_, _, _, _, _, _, _, _, _, _, _, _, hn, hr, _⟩ := delP_parts hd
    have hlen : st'.length ≤ 128 := by
      unfold rightB at hr
      simp only [Bool.and_eq_true, decide_eq_true_eq] at hr
      exact hr.2
    have hts : t.size ≤ LIM := by
      unfold LIM
      have := nameB_size hn
      omega
    have hsz' : ∀ x ∈ st', x.t.size ≤ LIM := fun x hx => by
      have := List.all_eq_true.1 hsz x hx
      unfold LIM
      have := of_decide_eq_true this
      omega
    have H := Lib.hid (parse_del (headT ++ s) l t st' w (by rw [ByteArray.size_append]; have : headT.size = 20 := rfl; omega) hL hlex hd hts hsz' hlen)
    clear hc hlex hd hn hr hlen hts hsz' hsz hL
    unfold headT at H
    go_enter Tryz.func22, Tryz.ntmps22
    go_wp2_with (go_at_call 42; refine (H.out).mono ?_; rintro e w1 ⟨A, c, rfl, hr1, hc1, hb1⟩; have HR1 := Lib.hid (RowS.keep hr1 (below_new (stmtO 5 t (.slice A st'.length c)))); have HB1 := Lib.hid (below_call0 hb1 hb1.size (below_new (stmtO 5 t (.slice A st'.length c)))); clear hr1 hb1)
    go_ret
    exact ⟨A, c, rfl, HR1.out, hc1, HB1.out⟩
end Go.Proofs.YtbemgcjckchdjaaGreatDoor
