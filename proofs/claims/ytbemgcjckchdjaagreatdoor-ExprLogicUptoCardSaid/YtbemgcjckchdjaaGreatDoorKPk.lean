import Derived.Test.YtbemgcjckchdjaaGreatDoorKPi
/- parse.Right (under way). -/
namespace Go.Proofs.YtbemgcjckchdjaaGreatDoor
open Go.RowKit
set_option linter.unusedSimpArgs false
set_option linter.unusedVariables false
structure ST where
  k : Int
  t : ByteArray
  n : Int
def ST.ok (s : ST) : Bool := stepOk s.k s.t s.n && stepEq s.k s.t s.n
def ST.takes (s : ST) : Int := stepN s.k s.n
/-- what a row of steps leaves on the stack -/
def rightStep (m : Option Int) (s : ST) : Option Int := m.bind fun n => if s.ok && decide (s.takes ≤ n) then some (n - (s.takes - 1)) else none
def rightAt (l : List ST) : Option Int := l.foldl rightStep (some 0)
def rightB (l : List ST) : Bool := decide (rightAt l = some 1) && decide (l.length ≤ 128)
def StepsAt (w : World) (l : List ST) (b o : Nat) : Prop := ∀ i (h : i < l.length), w.cell? ⟨b, o + i * 3, none⟩ = some (.int .u8 l[i].k) ∧ w.cell? ⟨b, o + i * 3 + 1, none⟩ = some (.string l[i].t) ∧ w.cell? ⟨b, o + i * 3 + 2, none⟩ = some (.int .i64 l[i].n)
theorem rightAt_take (l : List ST) (i : Nat) (h : i < l.length) : rightAt (l.take (i + 1)) = rightStep (rightAt (l.take i)) l[i] := by
  unfold rightAt
  rw [List.take_succ_eq_append_getElem h, List.foldl_append]
  rfl
theorem rightAt_none (l : List ST) : l.foldl rightStep none = none := by
  induction l with
  | nil => rfl
  | cons a r ih => exact ih
theorem rightAt_dead (l : List ST) (i : Nat) (h : rightAt (l.take i) = none) : rightAt l = none := by
  have e : l = l.take i ++ l.drop i := (List.take_append_drop i l).symm
  unfold rightAt at h ⊢
  rw [e, List.foldl_append, h]
  exact rightAt_none _
theorem takesV_ok (s : ST) (h : s.ok = true) : takesV s.k s.t s.n = .tuple #[.int .i64 s.takes, .bool true] := by
  unfold ST.ok at h; unfold takesV ST.takes; rw [h]; rfl
theorem takesV_no (s : ST) (h : s.ok = false) : takesV s.k s.t s.n = .tuple #[.int .i64 0, .bool false] := by
  unfold ST.ok at h; unfold takesV; rw [h]; rfl
theorem takes_range (s : ST) (h : s.ok = true) : 0 ≤ s.takes ∧ s.takes ≤ 64 := by
  unfold ST.ok stepOk at h
  unfold ST.takes stepN
  simp only [Bool.and_eq_true] at h
  by_cases h7 : s.k = 7
  · simp [h7] at h; simp [h7]; omega
  · by_cases h8 : s.k = 8
    · simp [h8] at h; simp [h8]; omega
    · simp only [h7, h8, or_self, if_false]
      split
      · omega
      · split <;> omega
theorem StepsAt.keep {w w' : World} {l : List ST} {b o : Nat} (h : StepsAt w l b o) (hb : Below w.heap.size w w') (hlb : b < w.heap.size) : StepsAt w' l b o := fun i hi => by
  obtain ⟨h1, h2, h3⟩ := h i hi
  exact ⟨keepC hb h1, keepC hb h2, keepC hb h3⟩
set_option maxHeartbeats 2000000 in
set_option maxRecDepth 100000 in
theorem right_calls (l : List ST) (a : Option Addr) (c : Nat) (w : World) (hL : Laid w) (hlen : l.length ≤ LIM) (hsz : ∀ s ∈ l, s.t.size ≤ LIM) (hr : l.length = 0 ∨ ∃ b o, a = some ⟨b, o, none⟩ ∧ StepsAt w l b o) :
    Calls Tryz.prog 23 #[.slice a l.length c] w fun e w' => e = .returned (.bool (rightB l)) ∧ Below w.heap.size w w' := by
  have HSZ := Lib.hid hsz
  have HR := Lib.hid hr
  have HL := Lib.hid hL
  have hlen' : l.length ≤ 1000000000000 ∨ True := Or.inr trivial
  unfold LIM at hlen
  clear hsz hr hL hlen'
  go_enter Tryz.func23, Tryz.ntmps23
  go_wp2_with fail
  go_loopw [3, 10] (fun s3 s10 wr => ∃ (i : Nat) (m : Int), s10 = .int .i64 i ∧ s3 = .int .i64 m ∧ i ≤ l.length ∧ 0 ≤ m ∧ m ≤ i ∧ rightAt (l.take i) = some m ∧ Below w.heap.size w wr) (fun _ s10 _ => l.length - (intOf s10).toNat)
  case atStart => exact ⟨0, 0, rfl, rfl, Nat.zero_le _, by omega, by omega, rfl, Below.refl _ _⟩
  case round =>
    obtain ⟨i, m, rfl, rfl, hil, hm0, hmi, hat, hx⟩ := hrel
    by_cases hlt : i < l.length
    · rcases HR.out with h0 | ⟨b, o, rfl, hc⟩
      · omega
      obtain ⟨c0, c1, c2⟩ := hc i hlt
      have hps := HSZ.out _ (List.getElem_mem hlt)
      have hst := rightAt_take l i hlt
      have hdead := rightAt_dead l (i + 1)
      obtain ⟨p, hp⟩ : ∃ p, l[i] = p := ⟨_, rfl⟩
      rw [hp] at c0 c1 c2 hps hst
      have d0 := keepC hx c0
      have d1 := keepC hx c1
      have d2 := keepC hx c2
      rw [hat] at hst
      obtain ⟨k, t, n⟩ := p
      simp only at c0 c1 c2 d0 d1 d2 hps
      have HX := Lib.hid hx
      have HT := Lib.hid (fun (w' : World) (hb : Below w.heap.size w w') => takes_any k t n w' hps (HL.out.below hb))
      clear c0 c1 c2 hc hp hx hps
      cases hok : (ST.mk k t n).ok with
      | false =>
        rw [show takesV k t n = _ from takesV_no ⟨k, t, n⟩ hok] at HT
        have HN : Hid (rightB l = false) := Lib.hid (by
          unfold rightB; rw [hdead (by rw [hst]; simp [rightStep, hok])]; rfl)
        clear hst hok hdead hat
        go_wp2_with (go_at_call 20; refine (HT.out _ (HX.out.alloc HX.out.size _)).mono ?_; rintro e w2 ⟨rfl, hb2⟩; have hbw := below_call0 (HX.out.alloc HX.out.size _) (HX.out.alloc HX.out.size _).size hb2)
        go_ret
        exact ⟨by rw [HN.out]; rfl, hbw⟩
      | true =>
        rw [show takesV k t n = _ from takesV_ok ⟨k, t, n⟩ hok] at HT
        have hrg := takes_range ⟨k, t, n⟩ hok
        obtain ⟨z, hz⟩ : ∃ z, (ST.mk k t n).takes = z := ⟨_, rfl⟩
        rw [hz] at HT hrg
        by_cases hzm : z ≤ m
        · have HN : Hid (rightAt (l.take (i + 1)) = some (m - (z - 1))) := Lib.hid (by rw [hst]; simp [rightStep, hok, hz, hzm])
          have q1 : ¬ m < z := by omega
          have q2 : ¬ z > m := by omega
          clear hst hok hdead hat hz
          go_wp2_with (go_at_call 20; refine (HT.out _ (HX.out.alloc HX.out.size _)).mono ?_; rintro e w2 ⟨rfl, hb2⟩; have hbw := below_call0 (HX.out.alloc HX.out.size _) (HX.out.alloc HX.out.size _).size hb2)
          go_roundw
          case rel => exact ⟨i + 1, m - (z - 1), by go_num, by go_num, by omega, by omega, by omega, HN.out, hbw⟩
          case measure => simp [intOf]; omega
        · have HN : Hid (rightB l = false) := Lib.hid (by
            unfold rightB; rw [hdead (by rw [hst]; simp [rightStep, hok, hz, hzm])]; rfl)
          have q1 : m < z := by omega
          have q2 : z > m := by omega
          clear hst hok hdead hat hz
          go_wp2_with (go_at_call 20; refine (HT.out _ (HX.out.alloc HX.out.size _)).mono ?_; rintro e w2 ⟨rfl, hb2⟩; have hbw := below_call0 (HX.out.alloc HX.out.size _) (HX.out.alloc HX.out.size _).size hb2)
          go_ret
          exact ⟨by rw [HN.out]; rfl, hbw⟩
    · have hie : l.take i = l := List.take_of_length_le (by omega)
      rw [hie] at hat
      have HX := Lib.hid hx
      have e1 : rightB l = (decide (m = 1) && decide (l.length ≤ 128)) := by unfold rightB; rw [hat]; simp
      have HE := Lib.hid e1
      clear hie hx e1 hat
      cases hm : decide (m = 1) with
      | false =>
        have q : (m == 1) = false := by simpa using hm
        have HF : Hid (rightB l = false) := Lib.hid (by rw [HE.out, hm]; rfl)
        clear HE hm
        go_wp2_with fail
        go_ret
        exact ⟨by rw [HF.out]; rfl, HX.out⟩
      | true =>
        have q : m = 1 := by simpa using hm
        subst q
        cases hl : decide (l.length ≤ 128) with
        | false =>
          have q : decide ((l.length : Int) ≤ 128) = false := by simp at hl ⊢; omega
          have HF : Hid (rightB l = false) := Lib.hid (by rw [HE.out, hl]; rfl)
          clear HE hm hl
          go_wp2_with fail
          go_ret
          exact ⟨by rw [HF.out]; rfl, HX.out⟩
        | true =>
          have q : decide ((l.length : Int) ≤ 128) = true := by simp at hl ⊢; omega
          have HF : Hid (rightB l = true) := Lib.hid (by rw [HE.out, hl]; rfl)
          clear HE hm hl
          go_wp2_with fail
          go_ret
          exact ⟨by rw [HF.out]; rfl, HX.out⟩
end Go.Proofs.YtbemgcjckchdjaaGreatDoor
/- parse.Closed. -/
namespace Go.Proofs.YtbemgcjckchdjaaGreatDoor
open Go.RowKit
set_option linter.unusedSimpArgs false
set_option linter.unusedVariables false
def ST.path (s : ST) : Bool := s.k == 6
theorem isPath_calls (s : ST) (w : World) : Calls Tryz.prog 121 #[.agg #[.int .u8 s.k, .string s.t, .int .i64 s.n]] w fun e w' => e = .returned (.bool s.path) ∧ Below w.heap.size w w' := by
  obtain ⟨k, t, n⟩ := s
  unfold ST.path
  simp only
  cases hk : (k == 6) with
  | true =>
    go_enter Tryz.func121, Tryz.ntmps121
    go_wp2_with fail
    go_ret
    exact ⟨rfl, (Below.refl _ _).alloc (Nat.le_refl _) _⟩
  | false =>
    go_enter Tryz.func121, Tryz.ntmps121
    go_wp2_with fail
    go_ret
    exact ⟨rfl, (Below.refl _ _).alloc (Nat.le_refl _) _⟩
/-- the first that is a path -/
def idxP : List ST → Nat → Int
  | [], _ => -1
  | p :: r, i => if p.path then i else idxP r (i + 1)
theorem idxP_any : ∀ (l : List ST) (i : Nat), decide (0 ≤ idxP l i) = l.any ST.path
  | [], i => rfl
  | p :: r, i => by
    unfold idxP
    rw [List.any_cons]
    cases p.path with
    | false => simpa using idxP_any r (i + 1)
    | true => simp
abbrev RowS (w : World) (l : List ST) (a : Option Addr) : Prop := l.length = 0 ∨ ∃ b o, a = some ⟨b, o, none⟩ ∧ StepsAt w l b o
set_option maxHeartbeats 1000000 in
set_option maxRecDepth 100000 in
theorem indexPath_calls (l : List ST) (a : Option Addr) (c : Nat) (w : World) (hlen : l.length ≤ LIM) (hr : RowS w l a) :
    Calls Tryz.prog 148 #[.slice a l.length c, .func (.func 121) #[] #[]] w fun e w' => e = .returned (.int .i64 (idxP l 0)) ∧ Below w.heap.size w w' := by
  obtain ⟨z, hz⟩ : ∃ z, idxP l 0 = z := ⟨_, rfl⟩
  rw [hz]
  have HZ := Lib.hid hz
  have HR := Lib.hid hr
  unfold LIM at hlen
  clear hz hr
  go_enter Tryz.func148, Tryz.ntmps148
  go_wp2
  go_loopw [8] (fun s8 wr => ∃ i : Nat, s8 = .int .i64 i ∧ i ≤ l.length ∧ Hid (idxP (l.drop i) i = z) ∧ Below w.heap.size w wr) (fun s8 _ => l.length - (intOf s8).toNat)
  case atStart => exact ⟨0, rfl, Nat.zero_le _, HZ, Below.refl _ _⟩
  case round =>
    obtain ⟨i, rfl, hil, HH, hx⟩ := hrel
    have HX := Lib.hid hx
    clear hx HZ
    by_cases hlt : i < l.length
    · rcases HR.out with h0 | ⟨b, o, rfl, hc⟩
      · omega
      obtain ⟨c0, c1, c2⟩ := hc i hlt
      have hh := HH.out
      rw [List.drop_eq_getElem_cons hlt, idxP] at hh
      obtain ⟨p, hp⟩ : ∃ p, l[i] = p := ⟨_, rfl⟩
      rw [hp] at c0 c1 c2 hh
      have d0 := keepC HX.out c0
      have d1 := keepC HX.out c1
      have d2 := keepC HX.out c2
      have HN := Lib.hid (isPath_calls p wr)
      clear c0 c1 c2 hp hc HH
      cases hn : p.path with
      | false =>
        rw [hn] at HN hh
        rw [if_neg (by simp)] at hh
        have HHH := Lib.hid hh
        clear hn hh
        go_wp2_with (go_at_call 121; refine (HN.out).mono ?_; rintro e w7 ⟨rfl, hb⟩)
        go_roundw
        case rel => exact ⟨i + 1, by go_num, by omega, HHH, below_call0 HX.out HX.out.size hb⟩
        case measure => simp [intOf]; omega
      | true =>
        rw [hn] at HN hh
        rw [if_pos rfl] at hh
        have HHH := Lib.hid hh
        clear hn hh
        go_wp2_with (go_at_call 121; refine (HN.out).mono ?_; rintro e w7 ⟨rfl, hb⟩)
        go_ret
        exact ⟨ret_eq HHH.out, below_call0 HX.out HX.out.size hb⟩
    · have hh := HH.out
      rw [List.drop_of_length_le (by omega), idxP] at hh
      have HHH := Lib.hid hh
      clear hh HH
      go_wp2_with fail
      go_ret
      exact ⟨ret_eq HHH.out, HX.out⟩
theorem containsPath_calls (l : List ST) (a : Option Addr) (c : Nat) (w : World) (hlen : l.length ≤ LIM) (hr : RowS w l a) :
    Calls Tryz.prog 120 #[.slice a l.length c, .func (.func 121) #[] #[]] w fun e w' => e = .returned (.bool (l.any ST.path)) ∧ Below w.heap.size w w' := by
  have H := Lib.hid (indexPath_calls l a c w hlen hr)
  have HE := Lib.hid (idxP_any l 0)
  generalize idxP l 0 = z at *
  clear hlen hr
  go_enter Tryz.func120, Tryz.ntmps120
  go_wp2_with (go_at_call 148; refine (H.out).mono ?_; rintro e w7 ⟨rfl, hb⟩)
  go_ret
  exact ⟨ret_b HE.out, hb⟩
def closedB (l : List ST) : Bool := !(l.any ST.path)
theorem closed_calls (l : List ST) (a : Option Addr) (c : Nat) (w : World) (hlen : l.length ≤ LIM) (hr : RowS w l a) :
    Calls Tryz.prog 94 #[.slice a l.length c] w fun e w' => e = .returned (.bool (closedB l)) ∧ Below w.heap.size w w' := by
  have H := Lib.hid (containsPath_calls l a c w hlen hr)
  unfold closedB
  generalize l.any ST.path = z at *
  clear hlen hr
  cases z with
  | true =>
    go_enter Tryz.func94, Tryz.ntmps94
    go_wp2_with (go_at_call 120; refine (H.out).mono ?_; rintro e w7 ⟨rfl, hb⟩)
    go_ret
    exact ⟨rfl, hb⟩
  | false =>
    go_enter Tryz.func94, Tryz.ntmps94
    go_wp2_with (go_at_call 120; refine (H.out).mono ?_; rintro e w7 ⟨rfl, hb⟩)
    go_ret
    exact ⟨rfl, hb⟩
end Go.Proofs.YtbemgcjckchdjaaGreatDoor
