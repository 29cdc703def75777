import Derived.Test.YtbemgcjckchdjaaGreatDoorLLa
import Derived.Test.YtbemgcjckchdjaaGreatDoorLVn
import Derived.Lib.Builder
import Derived.Shelf.Strings.Builder1
/- lex.word, number, sign. -/
namespace Go.Proofs.YtbemgcjckchdjaaGreatDoor
open Go.RowKit
set_option linter.unusedSimpArgs false
set_option linter.unusedVariables false
theorem EO (p : UInt8 → Bool) (s : ByteArray) : AA p s.data.toList ≤ s.size := by have := GE p s.data.toList; simpa using this
theorem AH {w : World} {b : Nat} {a0 a1 a2 a3 : Value} {T : TypeId} (h : w.heap[b]? = some (.cells #[a0, a1, a2, a3] T (0, 0))) :
  w.cell? ⟨b, 0, none⟩ = some a0 ∧ w.cell? ⟨b, 1, none⟩ = some a1 ∧ w.cell? ⟨b, 2, none⟩ = some a2 ∧ w.cell? ⟨b, 3, none⟩ = some a3 ∧ (∀ o, w.frozen? ⟨b, o, none⟩ = false) := by
 simp [World.cell?, World.frozen?, h]
structure RD where
 k : Int
 t : ByteArray
 n : Int
 len : Int
 why : Int
def RD.val (r : RD) : Value := .tuple #[.agg #[.int .u8 r.k, .string r.t, .int .i64 r.n, .int .i64 0], .int .i64 r.len, .int .i64 r.why]
def RD.no (e : Int) : RD := ⟨0, ⟨#[]⟩, 0, 0, e⟩
def ID (s : ByteArray) : RD :=
 if Ht (DC (s.extract 0 (AA BD s.data.toList))) then ⟨2, DC (s.extract 0 (AA BD s.data.toList)), 0, (AA BD s.data.toList : Int), 0⟩
 else if 64 < (AA BD s.data.toList : Int) then RD.no 13 else ⟨1, s.extract 0 (AA BD s.data.toList), 0, (AA BD s.data.toList : Int), 0⟩
theorem Bh {w w' : World} {r : RD} {g : Nat} (hb : Below w.heap.size w w') (hg : w.heap.size ≤ g) {u0 u1 u2 u3 : Value} : Below w.heap.size w (w'.setCells g 0 [u0, u1, u2, u3]) := Ag hg _ _ _ hb
set_option maxHeartbeats 1000000 in
theorem Q8 (s : ByteArray) (w : World) (hs : s.size ≤ LIM) : Calls Tryz.prog 110 #[.string s] w fun e w' => e = .returned (ID s).val ∧ Below w.heap.size w w' := by
 unfold LIM at hs
 have HR := Lib.hid (fun w' => Qf s w' (by omega))
 have hn := EO BD s
 unfold ID
 generalize AA BD s.data.toList = n at *
 have hx : (s.extract 0 n).size ≤ 1073741824 := by rw [ByteArray.size_extract]; omega
 have HK := Lib.hid (fun w' => Lz (s.extract 0 n) w' hx)
 have HG := Lib.hid (fun w' => J2 (s.extract 0 n) w' hx)
 generalize DC (s.extract 0 n) = x at *
 have hZ := Ab w (.cells #[.int .u8 0, .string ⟨#[]⟩, .int .i64 0, .int .i64 0] 158)
 have hD := (Below.refl w.heap.size w).alloc (Nat.le_refl _) (.cells #[.int .u8 0, .string ⟨#[]⟩, .int .i64 0, .int .i64 0] 158)
 have HZ := Lib.hid hZ
 have HD := Lib.hid hD
 clear hZ hD hx
 cases hk : Ht x with
 | true =>
   rw [hk] at HK
   rw [if_pos rfl]
   clear hk
   go_enter Tryz.func110, Tryz.ntmps110
   go_wp2_with (first | (go_at_call 82; refine (HR.out _).mono ?_; rintro e w1 ⟨rfl, rfl⟩) | (go_at_call 137; refine (HK.out _).mono ?_; rintro e w2 ⟨rfl, hb2⟩) | (go_at_call 138; refine (HG.out _).mono ?_; rintro e w3 ⟨rfl, hb3⟩; obtain ⟨y0, y1, y2, y3, y4⟩ := AH (blk hb3 (blk hb2 HZ.out))))
   refine bodyPost_ret (v := .tuple #[.agg #[.int .u8 2, .string x, .int .i64 0, .int .i64 0], .int .i64 n, .int .i64 0]) (by simp [results, Tryz.results110, go_sem, Ai, y0, y1, y2, y3]) rfl ?_
   exact ⟨rfl, Bh (r := RD.no 0) (Aa (Aa HD.out HD.out.size hb2) (Aa HD.out HD.out.size hb2).size hb3) (Nat.le_refl _)⟩
 | false =>
   rw [hk] at HK
   rw [if_neg (by simp)]
   clear hk
   by_cases h64 : 64 < (n : Int)
   · rw [if_pos h64]
     go_enter Tryz.func110, Tryz.ntmps110
     go_wp2_with (first | (go_at_call 82; refine (HR.out _).mono ?_; rintro e w1 ⟨rfl, rfl⟩) | (go_at_call 137; refine (HK.out _).mono ?_; rintro e w2 ⟨rfl, hb2⟩; obtain ⟨y0, y1, y2, y3, y4⟩ := AH (blk hb2 HZ.out)))
     refine bodyPost_ret (v := .tuple #[.agg #[.int .u8 0, .string ⟨#[]⟩, .int .i64 0, .int .i64 0], .int .i64 0, .int .i64 13]) (by simp [results, Tryz.results110, go_sem, Ai, y0, y1, y2, y3]) rfl ?_
     exact ⟨rfl, Bh (r := RD.no 0) (Aa HD.out HD.out.size hb2) (Nat.le_refl _)⟩
   · rw [if_neg h64]
     go_enter Tryz.func110, Tryz.ntmps110
     go_wp2_with (first | (go_at_call 82; refine (HR.out _).mono ?_; rintro e w1 ⟨rfl, rfl⟩) | (go_at_call 137; refine (HK.out _).mono ?_; rintro e w2 ⟨rfl, hb2⟩; obtain ⟨y0, y1, y2, y3, y4⟩ := AH (blk hb2 HZ.out)))
     refine bodyPost_ret (v := .tuple #[.agg #[.int .u8 1, .string (s.extract 0 n), .int .i64 0, .int .i64 0], .int .i64 n, .int .i64 0]) (by simp [results, Tryz.results110, go_sem, Ai, y0, y1, y2, y3]) rfl ?_
     exact ⟨rfl, Bh (r := RD.no 0) (Aa HD.out HD.out.size hb2) (Nat.le_refl _)⟩
def Hl (u : Nat) : Bool := decide ((9223372036854775807 : Int) < (u : Int))
def KY (s : ByteArray) : RD :=
 match Lib.parseUintB 64 (s.extract 0 (AA Bb s.data.toList)).data.toList with
 | .ok u => if Hl u || ((decide (1 < AA Bb s.data.toList) && (((s.data.toList.getD 0 0).toNat : Int) == 48)) || (decide (AA Bb s.data.toList < s.size) && B2 (s.data.toList.getD (AA Bb s.data.toList) 0))) then RD.no 13 else ⟨3, ⟨#[]⟩, u, (AA Bb s.data.toList : Int), 0⟩
 | _ => RD.no 13
theorem Ot (s : ByteArray) (w : World) (hs : s.size ≤ LIM) (hL : Laid w) : Calls Tryz.prog 139 #[.string s, .int .i64 10, .int .i64 64] w fun e w' =>
   ((∃ u : Nat, Lib.parseUintB 64 s.data.toList = .ok u ∧ e = .returned (.tuple #[.int .u64 u, .nilIface])) ∨ ((∀ u, Lib.parseUintB 64 s.data.toList ≠ .ok u) ∧ ∃ (z : Int) (N : Nat), e = .returned (.tuple #[.int .u64 z, .iface 199 (.pointer (some ⟨N, 0, none⟩))]))) ∧ Below w.heap.size w w' := by
 unfold LIM at hs
 cases h : Lib.parseUintB 64 s.data.toList with
 | ok u => exact (Tryz.strconv_ParseUint_10_at64_ok s (by omega) u h w).mono fun e w' ⟨h1, h2⟩ => ⟨Or.inl ⟨u, rfl, h1⟩, by
    rcases h2 with rfl | rfl
    · exact Below.refl _ _
    · exact D6 _ _ _⟩
 | range =>
   obtain ⟨tp, p, hv⟩ := hL.eran
   exact (Tryz.strconv_ParseUint_10_at64_range s (by omega) h _ w hv (Or.inr ⟨tp, p, rfl⟩)).mono fun e w' ⟨N, h1, _, _, h2⟩ => ⟨Or.inr ⟨by simp, _, N, h1⟩, h2⟩
 | _ =>
   obtain ⟨tp, p, hv⟩ := hL.esyn
   exact (Tryz.strconv_ParseUint_10_at64_syntax s (by omega) (by rw [h]; simp) (by rw [h]; simp) _ w hv (Or.inr ⟨tp, p, rfl⟩)).mono fun e w' ⟨N, h1, _, _, h2⟩ => ⟨Or.inr ⟨by simp, 0, N, h1⟩, h2⟩
theorem Q9 {u : Nat} (h : Hl u = false) : wrap64 (u : Int) = (u : Int) := by
 unfold Hl at h
 simp only [decide_eq_false_iff_not] at h
 unfold wrap64
 omega
set_option maxHeartbeats 2000000 in
set_option maxRecDepth 100000 in
theorem MU (s : ByteArray) (w : World) (hs : s.size ≤ LIM) (hL : Laid w) : Calls Tryz.prog 112 #[.string s] w fun e w' => e = .returned (KY s).val ∧ Below w.heap.size w w' := by
 unfold LIM at hs
 have HR := Lib.hid (fun w' => Ox s w' (by omega))
 have hn := EO Bb s
 unfold KY
 generalize AA Bb s.data.toList = n at *
 have hx : (s.extract 0 n).size ≤ LIM := by unfold LIM; rw [ByteArray.size_extract]; omega
 have hZ := Ab w (.cells #[.int .u8 0, .string ⟨#[]⟩, .int .i64 0, .int .i64 0] 158)
 have hD := (Below.refl w.heap.size w).alloc (Nat.le_refl _) (.cells #[.int .u8 0, .string ⟨#[]⟩, .int .i64 0, .int .i64 0] 158)
 have HP0 := Lib.hid (fun (w' : World) (hb : Below w.heap.size w w') => Ot (s.extract 0 n) w' hx (hL.below hb))
 have HZ := Lib.hid hZ
 have HD := Lib.hid hD
 clear hZ hD hx hL
 by_cases hno : ∀ u, Lib.parseUintB 64 (s.extract 0 n).data.toList ≠ .ok u
 · have e : (match Lib.parseUintB 64 (s.extract 0 n).data.toList with | .ok u => if Hl u || ((decide (1 < n) && (((s.data.toList.getD 0 0).toNat : Int) == 48)) || (decide (n < s.size) && B2 (s.data.toList.getD n 0))) then RD.no 13 else ⟨3, ⟨#[]⟩, u, (n : Int), 0⟩ | _ => RD.no 13) = RD.no 13 := by
     split
     · exact absurd ‹_› (hno _)
     · rfl
   rw [e]
   have HP : Hid (∀ (w' : World), Below w.heap.size w w' → Calls Tryz.prog 139 #[.string (s.extract 0 n), .int .i64 10, .int .i64 64] w' fun e w2 => (∃ (z : Int) (N : Nat), e = .returned (.tuple #[.int .u64 z, .iface 199 (.pointer (some ⟨N, 0, none⟩))])) ∧ Below w'.heap.size w' w2) := Lib.hid (fun w' hb => (HP0.out w' hb).mono fun e w2 ⟨h1, h2⟩ => ⟨by
     rcases h1 with ⟨u, hu, _⟩ | ⟨_, h1⟩
     · exact absurd hu (hno u)
     · exact h1, h2⟩)
   clear hno e HP0
   go_enter Tryz.func112, Tryz.ntmps112
   go_wp2_with (first | (go_at_call 82; refine (HR.out _).mono ?_; rintro e w1 ⟨rfl, rfl⟩) | (go_at_call 139; refine (HP.out _ HD.out).mono ?_; rintro e w2 ⟨⟨z, N, rfl⟩, hb2⟩; obtain ⟨y0, y1, y2, y3, y4⟩ := AH (blk hb2 HZ.out)))
   refine bodyPost_ret (v := .tuple #[.agg #[.int .u8 0, .string ⟨#[]⟩, .int .i64 0, .int .i64 0], .int .i64 0, .int .i64 13]) (by simp [results, Tryz.results112, go_sem, Ai, y0, y1, y2, y3]) rfl ?_
   exact ⟨rfl, Bh (r := RD.no 0) (Aa HD.out HD.out.size hb2) (Nat.le_refl _)⟩
 · obtain ⟨u, hu⟩ : ∃ u, Lib.parseUintB 64 (s.extract 0 n).data.toList = .ok u := Classical.byContradiction fun h => hno fun u e => h ⟨u, e⟩
   have HP : Hid (∀ (w' : World), Below w.heap.size w w' → Calls Tryz.prog 139 #[.string (s.extract 0 n), .int .i64 10, .int .i64 64] w' fun e w2 => e = .returned (.tuple #[.int .u64 u, .nilIface]) ∧ Below w'.heap.size w' w2) := Lib.hid (fun w' hb => (HP0.out w' hb).mono fun e w2 ⟨h1, h2⟩ => ⟨by
     rcases h1 with ⟨u', hu', h1⟩ | ⟨h3, _⟩
     · rw [hu] at hu'; cases hu'; exact h1
     · exact absurd hu (h3 u), h2⟩)
   rw [hu]
   simp only
   clear hno hu HP0
   have HLT := Lib.hid (fun (c : UInt8) (w' : World) => DU c w')
   cases hbig : Hl u with
   | true =>
     rw [Bool.true_or, if_pos rfl]
     unfold Hl at hbig
     go_enter Tryz.func112, Tryz.ntmps112
     go_wp2_with (first | (go_at_call 82; refine (HR.out _).mono ?_; rintro e w1 ⟨rfl, rfl⟩) | (go_at_call 139; refine (HP.out _ HD.out).mono ?_; rintro e w2 ⟨rfl, hb2⟩; obtain ⟨y0, y1, y2, y3, y4⟩ := AH (blk hb2 HZ.out)))
     refine bodyPost_ret (v := .tuple #[.agg #[.int .u8 0, .string ⟨#[]⟩, .int .i64 0, .int .i64 0], .int .i64 0, .int .i64 13]) (by simp [results, Tryz.results112, go_sem, Ai, y0, y1, y2, y3]) rfl ?_
     exact ⟨rfl, Bh (r := RD.no 0) (Aa HD.out HD.out.size hb2) (Nat.le_refl _)⟩
   | false =>
     rw [Bool.false_or]
     have hw := Q9 hbig
     unfold Hl at hbig
     have mid : ∃ z : Bool, (decide (1 < n) && (((s.data.toList.getD 0 0).toNat : Int) == 48)) = z ∧ (z = true → 1 < n ∧ ((s.data.toList.getD 0 0).toNat : Int) = 48) ∧ (z = false → ¬ 1 < n ∨ ((((s.data.toList.getD 0 0).toNat : Int) == 48) = false)) := by
       refine ⟨_, rfl, fun h => by simpa using h, fun h => ?_⟩
       rcases Nat.lt_or_ge 1 n with h1 | h1
       · right; simpa [h1] using h
       · left; omega
     obtain ⟨z, hz, hz1, hz0⟩ := mid
     rw [hz]
     cases z with
     | true =>
       rw [Bool.true_or, if_pos rfl]
       obtain ⟨g1, g2⟩ := hz1 rfl
       have h0 : 0 < s.size := by omega
       have hg : s.data.toList.getD 0 0 = s[0] := by simp [List.getD, h0]; rfl
       rw [hg] at g2
       obtain ⟨c, hc⟩ : ∃ c, s[0] = c := ⟨_, rfl⟩
       rw [hc] at g2
       have g3 : ((c.toNat : Int) == 48) = true := by simpa using g2
       have G2 := Lib.hid g2
       clear hz hz1 hz0 hg g2
       go_enter Tryz.func112, Tryz.ntmps112
       go_wp2_with (first | (go_at_call 82; refine (HR.out _).mono ?_; rintro e w1 ⟨rfl, rfl⟩) | (go_at_call 139; refine (HP.out _ HD.out).mono ?_; rintro e w2 ⟨rfl, hb2⟩; obtain ⟨y0, y1, y2, y3, y4⟩ := AH (blk hb2 HZ.out)))
       refine bodyPost_ret (v := .tuple #[.agg #[.int .u8 0, .string ⟨#[]⟩, .int .i64 0, .int .i64 0], .int .i64 0, .int .i64 13]) (by simp [results, Tryz.results112, go_sem, Ai, y0, y1, y2, y3]) rfl ?_
       exact ⟨rfl, Bh (r := RD.no 0) (Aa HD.out HD.out.size hb2) (Nat.le_refl _)⟩
     | false =>
       rw [Bool.false_or]
       have hz0 := hz0 rfl
       clear hz hz1
       by_cases hns : n < s.size
       · have hg : s.data.toList.getD n 0 = s[n] := by simp [List.getD, hns]; rfl
         rw [hg, show decide (n < s.size) = true by simpa using hns, Bool.true_and]
         obtain ⟨d, hd⟩ : ∃ d, s[n] = d := ⟨_, rfl⟩
         rw [hd]
         have HLD := Lib.hid (fun w' => DU d w')
         cases hl : B2 d with
         | true =>
           rw [hl] at HLD
           rw [if_pos rfl]
           clear hl hg
           rcases hz0 with q1 | q1
           · clear hw
             go_enter Tryz.func112, Tryz.ntmps112
             go_wp2_with (first | (go_at_call 82; refine (HR.out _).mono ?_; rintro e w1 ⟨rfl, rfl⟩) | (go_at_call 139; refine (HP.out _ HD.out).mono ?_; rintro e w2 ⟨rfl, hb2⟩; obtain ⟨y0, y1, y2, y3, y4⟩ := AH (blk hb2 HZ.out)) | (go_at_call 109; refine (HLD.out _).mono ?_; rintro e w3 ⟨rfl, rfl⟩))
             refine bodyPost_ret (v := .tuple #[.agg #[.int .u8 0, .string ⟨#[]⟩, .int .i64 0, .int .i64 0], .int .i64 0, .int .i64 13]) (by simp [results, Tryz.results112, go_sem, Ai, y0, y1, y2, y3]) rfl ?_
             exact ⟨rfl, Bh (r := RD.no 0) (Aa HD.out HD.out.size hb2) (Nat.le_refl _)⟩
           · have h0 : 0 < s.size := by omega
             have hg0 : s.data.toList.getD 0 0 = s[0] := by simp [List.getD, h0]; rfl
             rw [hg0] at q1
             obtain ⟨c, hc⟩ : ∃ c, s[0] = c := ⟨_, rfl⟩
             rw [hc] at q1
             clear hw hg0
             by_cases hn1 : 1 < n
             all_goals
              go_enter Tryz.func112, Tryz.ntmps112
              go_wp2_with (first | (go_at_call 82; refine (HR.out _).mono ?_; rintro e w1 ⟨rfl, rfl⟩) | (go_at_call 139; refine (HP.out _ HD.out).mono ?_; rintro e w2 ⟨rfl, hb2⟩; obtain ⟨y0, y1, y2, y3, y4⟩ := AH (blk hb2 HZ.out)) | (go_at_call 109; refine (HLD.out _).mono ?_; rintro e w3 ⟨rfl, rfl⟩))
              refine bodyPost_ret (v := .tuple #[.agg #[.int .u8 0, .string ⟨#[]⟩, .int .i64 0, .int .i64 0], .int .i64 0, .int .i64 13]) (by simp [results, Tryz.results112, go_sem, Ai, y0, y1, y2, y3]) rfl ?_
              exact ⟨rfl, Bh (r := RD.no 0) (Aa HD.out HD.out.size hb2) (Nat.le_refl _)⟩
         | false =>
           rw [hl] at HLD
           rw [if_neg (by simp)]
           clear hl hg
           rcases hz0 with q1 | q1
           · go_enter Tryz.func112, Tryz.ntmps112
             go_wp2_with (first | (go_at_call 82; refine (HR.out _).mono ?_; rintro e w1 ⟨rfl, rfl⟩) | (go_at_call 139; refine (HP.out _ HD.out).mono ?_; rintro e w2 ⟨rfl, hb2⟩; obtain ⟨y0, y1, y2, y3, y4⟩ := AH (blk hb2 HZ.out)) | (go_at_call 109; refine (HLD.out _).mono ?_; rintro e w3 ⟨rfl, rfl⟩))
             refine bodyPost_ret (v := .tuple #[.agg #[.int .u8 3, .string ⟨#[]⟩, .int .i64 u, .int .i64 0], .int .i64 n, .int .i64 0]) (by simp [results, Tryz.results112, go_sem, Ai, y0, y1, y2, y3]) rfl ?_
             exact ⟨rfl, Bh (r := RD.no 0) (Aa HD.out HD.out.size hb2) (Nat.le_refl _)⟩
           · have h0 : 0 < s.size := by omega
             have hg0 : s.data.toList.getD 0 0 = s[0] := by simp [List.getD, h0]; rfl
             rw [hg0] at q1
             obtain ⟨c, hc⟩ : ∃ c, s[0] = c := ⟨_, rfl⟩
             rw [hc] at q1
             clear hg0
             by_cases hn1 : 1 < n
             all_goals
              go_enter Tryz.func112, Tryz.ntmps112
              go_wp2_with (first | (go_at_call 82; refine (HR.out _).mono ?_; rintro e w1 ⟨rfl, rfl⟩) | (go_at_call 139; refine (HP.out _ HD.out).mono ?_; rintro e w2 ⟨rfl, hb2⟩; obtain ⟨y0, y1, y2, y3, y4⟩ := AH (blk hb2 HZ.out)) | (go_at_call 109; refine (HLD.out _).mono ?_; rintro e w3 ⟨rfl, rfl⟩))
              refine bodyPost_ret (v := .tuple #[.agg #[.int .u8 3, .string ⟨#[]⟩, .int .i64 u, .int .i64 0], .int .i64 n, .int .i64 0]) (by simp [results, Tryz.results112, go_sem, Ai, y0, y1, y2, y3]) rfl ?_
              exact ⟨rfl, Bh (r := RD.no 0) (Aa HD.out HD.out.size hb2) (Nat.le_refl _)⟩
       · rw [show decide (n < s.size) = false by simpa using hns, Bool.false_and, if_neg (by simp)]
         rcases hz0 with q1 | q1
         · go_enter Tryz.func112, Tryz.ntmps112
           go_wp2_with (first | (go_at_call 82; refine (HR.out _).mono ?_; rintro e w1 ⟨rfl, rfl⟩) | (go_at_call 139; refine (HP.out _ HD.out).mono ?_; rintro e w2 ⟨rfl, hb2⟩; obtain ⟨y0, y1, y2, y3, y4⟩ := AH (blk hb2 HZ.out)))
           refine bodyPost_ret (v := .tuple #[.agg #[.int .u8 3, .string ⟨#[]⟩, .int .i64 u, .int .i64 0], .int .i64 n, .int .i64 0]) (by simp [results, Tryz.results112, go_sem, Ai, y0, y1, y2, y3]) rfl ?_
           exact ⟨rfl, Bh (r := RD.no 0) (Aa HD.out HD.out.size hb2) (Nat.le_refl _)⟩
         · by_cases hn1 : 1 < n
           · have h0 : 0 < s.size := by omega
             have hg0 : s.data.toList.getD 0 0 = s[0] := by simp [List.getD, h0]; rfl
             rw [hg0] at q1
             obtain ⟨c, hc⟩ : ∃ c, s[0] = c := ⟨_, rfl⟩
             rw [hc] at q1
             clear hg0
             go_enter Tryz.func112, Tryz.ntmps112
             go_wp2_with (first | (go_at_call 82; refine (HR.out _).mono ?_; rintro e w1 ⟨rfl, rfl⟩) | (go_at_call 139; refine (HP.out _ HD.out).mono ?_; rintro e w2 ⟨rfl, hb2⟩; obtain ⟨y0, y1, y2, y3, y4⟩ := AH (blk hb2 HZ.out)))
             refine bodyPost_ret (v := .tuple #[.agg #[.int .u8 3, .string ⟨#[]⟩, .int .i64 u, .int .i64 0], .int .i64 n, .int .i64 0]) (by simp [results, Tryz.results112, go_sem, Ai, y0, y1, y2, y3]) rfl ?_
             exact ⟨rfl, Bh (r := RD.no 0) (Aa HD.out HD.out.size hb2) (Nat.le_refl _)⟩
           · go_enter Tryz.func112, Tryz.ntmps112
             go_wp2_with (first | (go_at_call 82; refine (HR.out _).mono ?_; rintro e w1 ⟨rfl, rfl⟩) | (go_at_call 139; refine (HP.out _ HD.out).mono ?_; rintro e w2 ⟨rfl, hb2⟩; obtain ⟨y0, y1, y2, y3, y4⟩ := AH (blk hb2 HZ.out)))
             refine bodyPost_ret (v := .tuple #[.agg #[.int .u8 3, .string ⟨#[]⟩, .int .i64 u, .int .i64 0], .int .i64 n, .int .i64 0]) (by simp [results, Tryz.results112, go_sem, Ai, y0, y1, y2, y3]) rfl ?_
             exact ⟨rfl, Bh (r := RD.no 0) (Aa HD.out HD.out.size hb2) (Nat.le_refl _)⟩
/- lex.sign. -/
def CN : List ByteArray := [⟨#[60, 62]⟩, ⟨#[60, 61]⟩, ⟨#[62, 61]⟩, ⟨#[61]⟩, ⟨#[60]⟩, ⟨#[62]⟩, ⟨#[43]⟩, ⟨#[45]⟩, ⟨#[42]⟩, ⟨#[40]⟩, ⟨#[41]⟩, ⟨#[91]⟩, ⟨#[93]⟩, ⟨#[123]⟩, ⟨#[125]⟩, ⟨#[44]⟩, ⟨#[58]⟩, ⟨#[46]⟩]
def sg (i : Nat) : ByteArray := CN.getD i ⟨#[]⟩
def CZ (s : ByteArray) : List ByteArray → RD
 | [] => RD.no 13
 | t :: r => if Lib.hasPrefix s.data.toList t.data.toList then ⟨5, t, 0, (t.size : Int), 0⟩ else CZ s r
theorem Nl (i : Nat) (h : i < 18) : CN.drop i = sg i :: CN.drop (i + 1) := by
 rw [List.drop_eq_getElem_cons (show i < CN.length from h)]
 simp [sg, List.getD, show i < CN.length from h]
set_option maxHeartbeats 1000000 in
set_option maxRecDepth 100000 in
theorem Qj (s : ByteArray) (w : World) : Calls Tryz.prog 116 #[.string s] w fun e w' => e = .returned (CZ s CN).val ∧ Below w.heap.size w w' := by
 obtain ⟨r, hr⟩ : ∃ r, CZ s CN = r := ⟨_, rfl⟩
 rw [hr]
 have HR := Lib.hid hr
 clear hr
 go_enter Tryz.func116, Tryz.ntmps116
 go_wp2_with fail
 have hZ := Af (o := .cells #[.string ⟨#[60, 62]⟩, .string ⟨#[60, 61]⟩, .string ⟨#[62, 61]⟩, .string ⟨#[61]⟩, .string ⟨#[60]⟩, .string ⟨#[62]⟩, .string ⟨#[43]⟩, .string ⟨#[45]⟩, .string ⟨#[42]⟩, .string ⟨#[40]⟩, .string ⟨#[41]⟩, .string ⟨#[91]⟩, .string ⟨#[93]⟩, .string ⟨#[123]⟩, .string ⟨#[125]⟩, .string ⟨#[44]⟩, .string ⟨#[58]⟩, .string ⟨#[46]⟩] 9) (Ab w (.cells #[.int .u8 0, .string ⟨#[]⟩, .int .i64 0, .int .i64 0] 158))
 have hS := Ab (w.alloc (.cells #[.int .u8 0, .string ⟨#[]⟩, .int .i64 0, .int .i64 0] 158)) (.cells #[.string ⟨#[60, 62]⟩, .string ⟨#[60, 61]⟩, .string ⟨#[62, 61]⟩, .string ⟨#[61]⟩, .string ⟨#[60]⟩, .string ⟨#[62]⟩, .string ⟨#[43]⟩, .string ⟨#[45]⟩, .string ⟨#[42]⟩, .string ⟨#[40]⟩, .string ⟨#[41]⟩, .string ⟨#[91]⟩, .string ⟨#[93]⟩, .string ⟨#[123]⟩, .string ⟨#[125]⟩, .string ⟨#[44]⟩, .string ⟨#[58]⟩, .string ⟨#[46]⟩] 9)
 have hD := Aj (w := w) (.cells #[.int .u8 0, .string ⟨#[]⟩, .int .i64 0, .int .i64 0] 158) (.cells #[.string ⟨#[60, 62]⟩, .string ⟨#[60, 61]⟩, .string ⟨#[62, 61]⟩, .string ⟨#[61]⟩, .string ⟨#[60]⟩, .string ⟨#[62]⟩, .string ⟨#[43]⟩, .string ⟨#[45]⟩, .string ⟨#[42]⟩, .string ⟨#[40]⟩, .string ⟨#[41]⟩, .string ⟨#[91]⟩, .string ⟨#[93]⟩, .string ⟨#[123]⟩, .string ⟨#[125]⟩, .string ⟨#[44]⟩, .string ⟨#[58]⟩, .string ⟨#[46]⟩] 9)
 have esz : (w.alloc (.cells #[.int .u8 0, .string ⟨#[]⟩, .int .i64 0, .int .i64 0] 158)).heap.size = w.heap.size + 1 := by simp
 rw [esz] at hS
 generalize (w.alloc (.cells #[.int .u8 0, .string ⟨#[]⟩, .int .i64 0, .int .i64 0] 158)).alloc (.cells #[.string ⟨#[60, 62]⟩, .string ⟨#[60, 61]⟩, .string ⟨#[62, 61]⟩, .string ⟨#[61]⟩, .string ⟨#[60]⟩, .string ⟨#[62]⟩, .string ⟨#[43]⟩, .string ⟨#[45]⟩, .string ⟨#[42]⟩, .string ⟨#[40]⟩, .string ⟨#[41]⟩, .string ⟨#[91]⟩, .string ⟨#[93]⟩, .string ⟨#[123]⟩, .string ⟨#[125]⟩, .string ⟨#[44]⟩, .string ⟨#[58]⟩, .string ⟨#[46]⟩] 9) = W at *
 have hc : ∀ i, i < 18 → W.cell? ⟨w.heap.size + 1, i, none⟩ = some (.string (sg i)) := by
  intro i hi
  unfold World.cell?
  rw [hS]
  obtain rfl | rfl | rfl | rfl | rfl | rfl | rfl | rfl | rfl | rfl | rfl | rfl | rfl | rfl | rfl | rfl | rfl | rfl : i = 0 ∨ i = 1 ∨ i = 2 ∨ i = 3 ∨ i = 4 ∨ i = 5 ∨ i = 6 ∨ i = 7 ∨ i = 8 ∨ i = 9 ∨ i = 10 ∨ i = 11 ∨ i = 12 ∨ i = 13 ∨ i = 14 ∨ i = 15 ∨ i = 16 ∨ i = 17 := by omega
  all_goals rfl
 have HC := Lib.hid hc
 obtain ⟨y0, y1, y2, y3, y4⟩ := AH hZ
 have HD := Lib.hid hD
 clear hc hS esz hZ hD
 go_loop [9] (fun s9 => ∃ i : Nat, s9 = .int .i64 i ∧ i ≤ 18 ∧ Hid (CZ s (CN.drop i) = r)) (fun s9 => 18 - (intOf s9).toNat)
 case atStart => exact ⟨0, rfl, by omega, HR⟩
 case round =>
  obtain ⟨i, rfl, hi, HH⟩ := hrel
  by_cases hlt : i < 18
  · have hcell := HC.out i hlt
    have hh := HH.out
    rw [Nl i hlt, CZ] at hh
    obtain ⟨t, ht⟩ : ∃ t, sg i = t := ⟨_, rfl⟩
    rw [ht] at hh hcell
    have HP := Lib.hid (Tryz.strings_HasPrefix s t W)
    clear ht HH HR
    cases hp : Lib.hasPrefix s.data.toList t.data.toList with
    | true =>
      rw [hp] at HP
      rw [if_pos hp] at hh
      have HHH := Lib.hid hh
      clear hp hh
      go_wp2_with (go_at_call 144; refine (HP.out).mono ?_; rintro e w1 ⟨rfl, rfl⟩)
      refine bodyPost_ret (v := .tuple #[.agg #[.int .u8 5, .string t, .int .i64 0, .int .i64 0], .int .i64 t.size, .int .i64 0]) (by simp [results, Tryz.results116, go_sem, Ai, y0, y1, y2, y3]) rfl ?_
      exact ⟨by rw [← HHH.out]; rfl, Bh (r := RD.no 0) HD.out (Nat.le_refl _)⟩
    | false =>
      rw [hp] at HP
      rw [if_neg (by rw [hp]; simp)] at hh
      have HHH := Lib.hid hh
      clear hp hh
      go_wp2_with (go_at_call 144; refine (HP.out).mono ?_; rintro e w1 ⟨rfl, rfl⟩)
      go_round
      case rel => exact ⟨i + 1, by go_num, by omega, HHH⟩
      case measure => simp [intOf]; omega
  · have hie : i = 18 := by omega
    subst hie
    have hh : RD.no 13 = r := HH.out
    have HHH := Lib.hid hh
    clear hh HH HR HC
    go_wp2_with fail
    refine bodyPost_ret (v := .tuple #[.agg #[.int .u8 0, .string ⟨#[]⟩, .int .i64 0, .int .i64 0], .int .i64 0, .int .i64 13]) (by simp [results, Tryz.results116, go_sem, Ai, y0, y1, y2, y3]) rfl ?_
    exact ⟨by rw [← HHH.out]; rfl, Bh (r := RD.no 0) HD.out (Nat.le_refl _)⟩
/- strings.Builder as lex.text uses it: copyCheck, WriteString, WriteByte. -/
theorem Tryz.infoB : (Tryz.prog.info? 217).map (·.size) = some 2 := by kernel_rfl
theorem Tryz.infoByte : (Tryz.prog.info? 5).map (fun i => (i.zero, i.size, i.bytes)) = some (some (.int .u8 0), 1, 1) := by kernel_rfl
abbrev Bld (B b : Nat) (l : List UInt8) (w : World) : Prop := Lib.IsBuilder 217 5 B b (Lib.byteCells l) w
set_option maxHeartbeats 1000000 in
set_option maxRecDepth 100000 in
theorem FP (B b : Nat) (bs : List Value) (w : World) (h : Lib.IsBuilder 217 5 B b bs w) :
   Calls Tryz.prog 166 #[.pointer (some ⟨b, 0, none⟩)] w fun e w' => e = .returned (.tuple #[]) ∧ Lib.BuilderAt 217 5 B b (.pointer (some ⟨b, 0, none⟩)) bs w' ∧ Below B w w' := by
 obtain ⟨j, hj, hjs⟩ := Option.map_eq_some_iff.1 Tryz.infoB
 rcases h with h | h
 · have c0 := h.cell0
   have cs := h.shape
   have cf := h.frozen0
   have H := Lib.hid h
   clear h
   go_enter Tryz.func166, Tryz.ntmps166
   go_wp2
   rw [Lib.run_to_unsafe w ⟨b, 0, none⟩ Tryz.underlying215 Tryz.underlying245 hj (by rw [hjs]; decide) cs (Nat.zero_lt_succ 1)]
   simp only [Result.andThen]
   rw [Oper.upon_value]
   go_wp2
   rw [run_callFunc_extern Tryz.func180 (by kernel_rfl) (by kernel_rfl) (by kernel_rfl) (e := Extern.AbiNoEscape.same) (by kernel_rfl)]
   rw [Lib.run_noEscape]
   simp only [Result.andThen]
   rw [Oper.upon_value]
   go_wp2
   rw [Lib.run_from_unsafe w ⟨b, 0, none⟩ Tryz.underlying245 Tryz.underlying215 hj cs (by kernel_rfl)]
   simp only [Result.andThen]
   rw [Oper.upon_value]
   go_wp2
   go_end0
   exact ⟨rfl, H.out.used _, (Below.refl B w).setCell (p := ⟨b, 0, none⟩) H.out.1 _⟩
 · have c0 := h.cell0
   have H := Lib.hid h
   clear h
   have n1 := Lib.run_neq_ptr_same (P := Tryz.prog) w (tp := 215) ⟨b, 0, none⟩ Tryz.underlying215 hj
   go_enter Tryz.func166, Tryz.ntmps166
   go_wp2
   go_end0
   exact ⟨rfl, H.out, Below.refl _ _⟩
theorem Ry (w : World) (v : Value) (T : TypeId) : ∀ j u, [v][j]? = some u → (w.alloc (.cells #[v] T)).cell? ((⟨w.heap.size, 0, none⟩ : Addr).add j) = some u := by
 intro j u h
 match j, h with
 | 0, h =>
   simp at h
   subst h
   rw [AS]
   unfold World.cell?
   rw [Ab w (.cells #[v] T)]
   rfl
theorem Ii {w : World} {b : Nat} {p v : Value} {T : TypeId} (h : w.heap[b]? = some (.cells #[p, v] T (0, 0))) : w.cell? ⟨b, 0, none⟩ = some p ∧ w.cell? ⟨b, 1, none⟩ = some v ∧ ∀ o, w.frozen? ⟨b, o, none⟩ = false := by
 simp [World.cell?, World.frozen?, h]
set_option maxHeartbeats 2000000 in
set_option maxRecDepth 100000 in
theorem II (B b : Nat) (l : List UInt8) (s : ByteArray) (w : World) (h : Bld B b l w) (hlen : l.length + s.size ≤ 1073741824) (hBw : B ≤ w.heap.size) :
   Calls Tryz.prog 141 #[.pointer (some ⟨b, 0, none⟩), .string s] w fun e w' => e = .returned (.tuple #[.int .i64 s.size, .nilIface]) ∧ Bld B b (l ++ s.data.toList) w' ∧ Below B w w' := by
 obtain ⟨i0, hi0, hz0, hz1, hz2⟩ := info_parts Tryz.infoByte
 have hbl : (Lib.byteCells l).length = l.length := by simp [Lib.byteCells]
 have HC := Lib.hid (FP B b (Lib.byteCells l) w h)
 have hfin : Lib.byteCells (l ++ s.data.toList) = Lib.byteCells l ++ Lib.strCells s := by simp [Lib.byteCells, Lib.strCells]
 have HFIN := Lib.hid hfin
 have HBL := Lib.hid hbl
 clear h hfin hbl
 go_enter Tryz.func141, Tryz.ntmps141
 go_wp2_with fail
 refine HC.out.mono ?_
 rintro e w1 ⟨rfl, ⟨hB, v, hbk, hown, hne⟩, hb1⟩
 obtain ⟨c0, c1, c2⟩ := Ii hbk
 have HK := Lib.hid hbk
 have HO := Lib.hid hown
 have HB1 := Lib.hid hb1
 clear hbk
 go_wp2_with (at_builtin; refine Lib.wpList_append_own_string _ rfl _ _ 198 9 rfl B 5 i0 Tryz.underlying198 Tryz.underlying9 hi0 hz0 hz1 hz2 _ _ _ rfl hown s rfl (by have := HBL.out; unfold maxLen; omega) (by have := HBL.out; omega) (by have := HB1.out.size; omega) ?_; intro v' w2 hown' hgrow _; have hb2 : w2.heap[b]? = some (.cells #[.pointer (some ⟨b, 0, none⟩), v] 217 (0, 0)) := (hgrow.block b (lt_of_block HK.out) (fun e => hne e.symm)).trans HK.out; obtain ⟨d0, d1, d2⟩ := Ii hb2; obtain ⟨av, cv, rfl⟩ := By hown')
 go_ret2
 refine ⟨rfl, ?_, ?_⟩
 · rw [Bld, HFIN.out]
   exact Or.inr (Lib.BuilderAt.put (T := 217) (e := 5) hB hb2 (bs' := Lib.byteCells l ++ Lib.strCells s) (by simpa [Lib.strCells_length] using hown') (by decide))
 · exact (HB1.out.grown hgrow (by have := HB1.out.size; omega) (fun k hk => (HO.out.lt k hk).1)).setCell (p := ⟨b, 1, none⟩) hB _
set_option maxHeartbeats 2000000 in
set_option maxRecDepth 100000 in
theorem JZ (B b : Nat) (l : List UInt8) (c : UInt8) (w : World) (h : Bld B b l w) (hlen : l.length + 1 ≤ 1073741824) (hBw : B ≤ w.heap.size) :
   Calls Tryz.prog 142 #[.pointer (some ⟨b, 0, none⟩), .int .u8 c.toNat] w fun e w' => e = .returned .nilIface ∧ Bld B b (l ++ [c]) w' ∧ Below B w w' := by
 obtain ⟨i0, hi0, hz0, hz1, hz2⟩ := info_parts Tryz.infoByte
 have hbl : (Lib.byteCells l).length = l.length := by simp [Lib.byteCells]
 have HC := Lib.hid (FP B b (Lib.byteCells l) w h)
 have hfin : Lib.byteCells (l ++ [c]) = Lib.byteCells l ++ [.int .u8 c.toNat] := by simp [Lib.byteCells]
 have HFIN := Lib.hid hfin
 have HBL := Lib.hid hbl
 clear h hfin hbl
 go_enter Tryz.func142, Tryz.ntmps142
 go_wp2_with fail
 refine HC.out.mono ?_
 rintro e w1 ⟨rfl, ⟨hB, v, hbk, hown, hne⟩, hb1⟩
 obtain ⟨c0, c1, c2⟩ := Ii hbk
 have HK := Lib.hid hbk
 have HO := Lib.hid hown
 have HB1 := Lib.hid hb1
 clear hbk
 go_wp2_with (at_builtin; refine wpList_append_own _ rfl _ _ 198 rfl B 5 i0 (.int .u8 0) 1 1 Tryz.underlying198 hi0 hz0 hz1 hz2 rfl (by decide) _ _ _ rfl (hown.alloc _) ⟨w1.heap.size, 0, none⟩ 1 1 [.int .u8 c.toNat] rfl rfl (Ry w1 _ _) (by intro u hu; simp at hu; subst hu; rfl) (by have := HBL.out; unfold maxLen; omega) (by have := HBL.out; omega) (by have := HB1.out.size; simp; omega) ?_; intro v' w2 hown' hgrow _; have hb2 : w2.heap[b]? = some (.cells #[.pointer (some ⟨b, 0, none⟩), v] 217 (0, 0)) := (hgrow.block b (by have := lt_of_block HK.out; simp; omega) (fun e => hne e.symm)).trans (Af HK.out); obtain ⟨d0, d1, d2⟩ := Ii hb2; obtain ⟨av, cv, rfl⟩ := By hown')
 go_ret
 refine ⟨rfl, ?_, ?_⟩
 · rw [Bld, HFIN.out]
   exact Or.inr (Lib.BuilderAt.put (T := 217) (e := 5) hB hb2 (bs' := Lib.byteCells l ++ [.int .u8 c.toNat]) (by simpa using hown') (by decide))
 · exact ((HB1.out.alloc (by have := HB1.out.size; omega) _).grown hgrow (by have := HB1.out.size; simp; omega) (fun k hk => (HO.out.lt k hk).1)).setCell (p := ⟨b, 1, none⟩) hB _
end Go.Proofs.YtbemgcjckchdjaaGreatDoor
