import Derived.Test.YtbemgcjckchdjaaGreatDoorLEa
/- Programs: what code and vm make of expressions, in plain Lean. No program of the translation in sight. -/
namespace Go.Proofs.YtbemgcjckchdjaaGreatDoor
open Go.RowKit
set_option linter.unusedSimpArgs false
set_option linter.unusedVariables false
structure IT where
 op : Int
 s : ST
 tgt : Int
abbrev zS : ST := ⟨0, Ez, 0⟩
def Az (b : Nat) (x : IT) : IT := if 0 < x.tgt then ⟨x.op, x.s, x.tgt + b⟩ else x
def Bk : List (List IT) → List IT → List IT
 | [], out => out
 | p :: r, out => Bk r (out ++ p.map (Az out.length))
def AU (jump behind : Int) (a b : List IT) : List IT := Bk [a, [⟨jump, zS, (b.length : Int) + 2⟩], b, [⟨behind, zS, 0⟩]] []
def AQ (s : ST) (parts : List (List IT)) : List IT :=
 if s.k = 21 then AU 2 3 (parts.getD 0 []) (parts.getD 1 [])
 else if s.k = 22 then AU 4 5 (parts.getD 0 []) (parts.getD 1 [])
 else Bk parts [] ++ [⟨1, s, 0⟩]
def Ba (stk : List (List IT)) (s : ST) : List (List IT) := stk.take (stk.length - s.takes.toNat) ++ [AQ s (stk.drop (stk.length - s.takes.toNat))]
def AO (l : List ST) (stk : List (List IT)) : List (List IT) := l.foldl Ba stk
def AB (l : List ST) : List IT × Int := if Av l then ((AO l []).getD 0 [], 0) else ([], 13)
abbrev HT := Int → Option Int
def BR (h : HT) (a v : Int) : HT := fun x => if x = a then some v else h x
def AN (h : HT) (a v : Int) : HT × Bool := (BR h a v, match h a with | none => true | some u => decide (u = v))
def ER (s : ST) : Bool := s.k == 0 && s.t.toList == [] && s.n == 0
def AE (n : Nat) (x : IT) (i : Nat) (h : HT) : Option HT := match h i with
 | none => none
 | some ht =>
   if x.op = 1 then
    if x.s.ok && decide (x.s.k < 21) && x.tgt == 0 && decide (x.s.takes ≤ ht) && (AN h (i + 1) (ht - x.s.takes + 1)).2 then some (AN h (i + 1) (ht - x.s.takes + 1)).1 else none
   else if x.op = 2 ∨ x.op = 4 then
    if decide ((i : Int) < x.tgt) && decide (x.tgt ≤ (n : Int)) && (AN h x.tgt ht).2 && ER x.s && decide (1 ≤ ht) && (AN (AN h x.tgt ht).1 (i + 1) (if x.op = 2 then ht - 1 else ht)).2 then some (AN (AN h x.tgt ht).1 (i + 1) (if x.op = 2 then ht - 1 else ht)).1 else none
   else if x.op = 3 then
    if ER x.s && x.tgt == 0 && decide (1 ≤ ht) && (AN h (i + 1) ht).2 then some (AN h (i + 1) ht).1 else none
   else if x.op = 5 then
    if ER x.s && x.tgt == 0 && decide (2 ≤ ht) && (AN h (i + 1) (ht - 1)).2 then some (AN h (i + 1) (ht - 1)).1 else none
   else none
def goK (n : Nat) : List IT → Nat → HT → Option HT
 | [], _, h => some h
 | x :: r, i, h => match AE n x i h with
   | none => none
   | some h' => goK n r (i + 1) h'
def H0 : HT := BR (fun _ => none) 0 0
def AL (p : List IT) : Int := if 1 ≤ p.length ∧ p.length ≤ 256 then (match goK p.length p 0 H0 with | none => 11 | some h => if h p.length = some 1 then 0 else 11) else 11
def BZ (s : ST) (row : VT) (l : List VT) : Rz := AX s row (l.map fun v => (v, 0))
def Bf (v : VT) : Int := if 1 < v.kind then 5 else 0
def Bz (vs : List VT) : VT := vs.getD (vs.length - 1) Am
def opR (row : VT) (x : IT) (vs : List VT) (next : Int) : Int × List VT × Int :=
 if x.op = 1 then ((BZ x.s row (vs.drop (vs.length - x.s.takes.toNat))).2, vs.take (vs.length - x.s.takes.toNat) ++ [(BZ x.s row (vs.drop (vs.length - x.s.takes.toNat))).1], next)
 else if x.op = 2 then (Bf (Bz vs), if (Bz vs).bool then vs.take (vs.length - 1) else vs, if (Bz vs).bool then next else x.tgt)
 else if x.op = 4 then (Bf (Bz vs), vs, if (Bz vs).bool then x.tgt else next)
 else if x.op = 3 then (Bf (Bz vs), vs, next)
 else (max (Bf (vs.getD (vs.length - 2) Am)) (Bf (Bz vs)), vs.take (vs.length - 2) ++ [if !(Bz vs).bool && (vs.getD (vs.length - 2) Am).kind == 0 then vs.getD (vs.length - 2) Am else Bz vs], next)
def AD (p : List IT) (row : VT) : Nat → Nat → List VT → Rz × Nat
 | 0, i, vs => if i < p.length then ((Am, 16), 0) else ((Bz vs, 0), 0)
 | f + 1, i, vs => if h : i < p.length then
    (if (opR row p[i] vs (i + 1)).1 ≠ 0 then ((Am, (opR row p[i] vs (i + 1)).1), f) else AD p row f (opR row p[i] vs (i + 1)).2.2.toNat (opR row p[i] vs (i + 1)).2.1)
   else ((Bz vs, 0), f + 1)
def BC (p : List IT) (row : VT) (fuel : Int) : Rz × Nat :=
 if AL p ≠ 0 then ((Am, AL p), 0)
 else if Ao row 0 ≠ 0 then ((Am, Ao row 0), 0)
 else if fuel < 0 ∨ 65536 < fuel then ((Am, 2), 0)
 else AD p row fuel.toNat 0 []
def Dk (p : List IT) (row : VT) (fuel : Int) : Bool × Nat × Int :=
 if (BC p row fuel).1.2 = 0 ∧ 1 < (BC p row fuel).1.1.kind then (false, (BC p row fuel).2, 5)
 else (decide ((BC p row fuel).1.2 = 0) && (BC p row fuel).1.1.bool, (BC p row fuel).2, (BC p row fuel).1.2)
/- How long programs are, and where they jump (plain). -/
def B8 : List (List IT) → Nat
 | [] => 0
 | p :: r => p.length + B8 r
theorem FG : ∀ a b : List (List IT), B8 (a ++ b) = B8 a + B8 b
 | [], b => by simp [B8]
 | p :: r, b => by simp [B8, FG r b]; omega
theorem CG : ∀ (ps : List (List IT)) (out : List IT), (Bk ps out).length = out.length + B8 ps
 | [], out => by simp [Bk, B8]
 | p :: r, out => by rw [Bk, CG r]; simp [B8]; omega
def toGood (p : List IT) : Prop := ∀ x ∈ p, 0 ≤ x.tgt ∧ x.tgt ≤ (p.length : Int)
theorem FC {b n : Nat} {x : IT} (h : 0 ≤ x.tgt ∧ x.tgt ≤ (n : Int)) : 0 ≤ (Az b x).tgt ∧ (Az b x).tgt ≤ ((b + n : Nat) : Int) := by
 unfold Az
 split
 · exact ⟨by show 0 ≤ x.tgt + (b : Int); omega, by show x.tgt + (b : Int) ≤ _; omega⟩
 · exact ⟨h.1, by omega⟩
theorem Kv {a b : List IT} (ha : toGood a) (hb : ∀ x ∈ b, 0 ≤ x.tgt ∧ x.tgt ≤ ((a.length + b.length : Nat) : Int)) : toGood (a ++ b) := by
 intro x hx
 rw [List.length_append]
 rcases List.mem_append.1 hx with h | h
 · obtain ⟨h1, h2⟩ := ha x h
   exact ⟨h1, by omega⟩
 · exact hb x h
theorem Ir : ∀ (ps : List (List IT)) (out : List IT), (∀ p ∈ ps, toGood p) → toGood out → toGood (Bk ps out)
 | [], out, _, ho => ho
 | p :: r, out, hp, ho => by
   rw [Bk]
   refine Ir r _ (fun q hq => hp q (List.mem_cons_of_mem _ hq)) (Kv ho fun x hx => ?_)
   obtain ⟨y, hy, rfl⟩ := List.mem_map.1 hx
   rw [List.length_map]
   exact FC (hp p (List.mem_cons_self ..) y hy)
theorem J5 (j b' : Int) (a b : List IT) : AU j b' a b = ((([] ++ a.map (Az 0)) ++ [(⟨j, zS, (b.length : Int) + 2 + a.length⟩ : IT)]) ++ b.map (Az (a.length + 1))) ++ [⟨b', zS, 0⟩] := by
 unfold AU
 simp only [Bk, List.length_append, List.length_map, List.length_nil, List.map_cons, List.map_nil, Nat.zero_add]
 have e1 : Az a.length ⟨j, zS, (b.length : Int) + 2⟩ = (⟨j, zS, (b.length : Int) + 2 + a.length⟩ : IT) := if_pos (by show (0 : Int) < (b.length : Int) + 2; omega)
 have e2 : ∀ n, Az n ⟨b', zS, 0⟩ = (⟨b', zS, 0⟩ : IT) := fun n => if_neg (by show ¬ (0 : Int) < 0; omega)
 rw [e1, e2]
 simp
theorem DM (j b' : Int) (a b : List IT) : (AU j b' a b).length = a.length + b.length + 2 := by
 rw [J5]; simp; omega
theorem GS {j b' : Int} {a b : List IT} (ha : toGood a) (hb : toGood b) : toGood (AU j b' a b) := by
 have hl := DM j b' a b
 intro x hx
 rw [hl]
 rw [J5] at hx
 simp only [List.nil_append, List.mem_append, List.mem_map, List.mem_singleton] at hx
 rcases hx with ((⟨y, hy, rfl⟩ | rfl) | ⟨y, hy, rfl⟩) | rfl
 · have := FC (b := 0) (ha y hy); omega
 · exact ⟨by show (0 : Int) ≤ (b.length : Int) + 2 + a.length; omega, by show (b.length : Int) + 2 + a.length ≤ _; omega⟩
 · have := FC (b := a.length + 1) (hb y hy); omega
 · exact ⟨by show (0 : Int) ≤ 0; omega, by show (0 : Int) ≤ _; omega⟩
theorem EH {ps : List (List IT)} (h : ∀ p ∈ ps, toGood p) (i : Nat) : toGood (ps.getD i []) := by
 rw [List.getD_eq_getElem?_getD]
 cases hi : ps[i]? with
 | none => intro x hx; simp at hx
 | some p => exact h p (List.mem_of_getElem? hi)
theorem Q2 : ∀ ps : List (List IT), (ps.getD 0 []).length + (ps.getD 1 []).length ≤ B8 ps
 | [] => by simp
 | [p] => by simp [B8]
 | p :: q :: r => by simp [B8] <;> omega
theorem MY (s : ST) {ps : List (List IT)} (h : ∀ p ∈ ps, toGood p) : toGood (AQ s ps) := by
 unfold AQ
 split
 · exact GS (EH h 0) (EH h 1)
 · split
   · exact GS (EH h 0) (EH h 1)
   · refine Kv (Ir ps [] h (fun x hx => by simp at hx)) fun x hx => ?_
     simp only [List.mem_singleton] at hx
     subst hx
     exact ⟨by show (0 : Int) ≤ 0; omega, by show (0 : Int) ≤ _; omega⟩
theorem Ld (s : ST) (ps : List (List IT)) : (AQ s ps).length ≤ B8 ps + 2 := by
 unfold AQ
 have := Q2 ps
 split
 · rw [DM]; omega
 · split
   · rw [DM]; omega
   · rw [List.length_append, CG]; simp
theorem Nn (s : ST) {stk : List (List IT)} (h : ∀ p ∈ stk, toGood p) : ∀ p ∈ Ba stk s, toGood p := by
 unfold Ba
 intro p hp
 rcases List.mem_append.1 hp with hp | hp
 · exact h p (List.mem_of_mem_take hp)
 · simp only [List.mem_singleton] at hp
   subst hp
   exact MY s fun q hq => h q (List.mem_of_mem_drop hq)
theorem Lm (s : ST) (stk : List (List IT)) : B8 (Ba stk s) ≤ B8 stk + 2 := by
 unfold Ba
 rw [FG]
 have h1 := Ld s (stk.drop (stk.length - s.takes.toNat))
 have h2 : B8 stk = B8 (stk.take (stk.length - s.takes.toNat)) + B8 (stk.drop (stk.length - s.takes.toNat)) := by rw [← FG, List.take_append_drop]
 simp only [B8]
 omega
theorem Hd : ∀ (l : List ST) (stk : List (List IT)), (∀ p ∈ stk, toGood p) → (∀ p ∈ AO l stk, toGood p) ∧ B8 (AO l stk) ≤ B8 stk + 2 * l.length
 | [], stk, h => ⟨h, by simp [AO]⟩
 | s :: l, stk, h => by
   obtain ⟨h1, h2⟩ := Hd l (Ba stk s) (Nn s h)
   refine ⟨h1, ?_⟩
   have h3 := Lm s stk
   have e : AO (s :: l) stk = AO l (Ba stk s) := rfl
   rw [e, List.length_cons]
   omega
theorem Cm : ∀ (ps : List (List IT)) (p : List IT), p ∈ ps → p.length ≤ B8 ps
 | [], p, h => by simp at h
 | q :: r, p, h => by
   simp only [List.mem_cons] at h
   rcases h with rfl | h
   · simp [B8]
   · have := Cm r p h
     simp [B8]; omega
theorem LR (l : List ST) (i : Nat) (h : i < l.length) : AO (l.take (i + 1)) [] = Ba (AO (l.take i) []) l[i] := by
 unfold AO
 rw [List.take_succ_eq_append_getElem h, List.foldl_append]
 rfl
/- code.joined, code.logic (printed by gencode.py). -/
theorem Tryz.infoI : (Tryz.prog.info? 73).map (fun i => (i.zero, i.size, i.bytes)) = some (some (.agg #[.int .u8 0, .int .u8 0, .string ⟨#[]⟩, .int .i64 0, .int .i64 0]), 5, 48) := by kernel_rfl
abbrev Ke (x : IT) : List Value := [.int .u8 x.op, .int .u8 x.s.k, .string x.s.t, .int .i64 x.s.n, .int .i64 x.tgt]
def AW : List IT → List Value
 | [] => []
 | x :: r => Ke x ++ AW r
theorem FR : ∀ l : List IT, (AW l).length = l.length * 5
 | [] => rfl
 | x :: r => by simp [AW, FR r]; omega
theorem Fw : ∀ (a b : List IT), AW (a ++ b) = AW a ++ AW b
 | [], b => rfl
 | x :: r, b => by simp [AW, Fw r b]
theorem Iq : ∀ (l : List IT) (i : Nat) (h : i < l.length), (AW l)[i * 5]? = some (.int .u8 l[i].op) ∧ (AW l)[i * 5 + 1]? = some (.int .u8 l[i].s.k) ∧ (AW l)[i * 5 + 2]? = some (.string l[i].s.t) ∧ (AW l)[i * 5 + 3]? = some (.int .i64 l[i].s.n) ∧ (AW l)[i * 5 + 4]? = some (.int .i64 l[i].tgt)
 | [], i, h => absurd h (Nat.not_lt_zero _)
 | x :: r, 0, h => ⟨rfl, rfl, rfl, rfl, rfl⟩
 | x :: r, i + 1, h => by
   have ih := Iq r i (by simpa using h)
   have e : ∀ j, (AW (x :: r))[(i + 1) * 5 + j]? = (AW r)[i * 5 + j]? := fun j => by
    show (Ke x ++ AW r)[(i + 1) * 5 + j]? = _
    rw [List.getElem?_append_right (by simp; omega)]
    congr 1
    simp
    omega
   have e0 := e 0
   rw [Nat.add_zero, Nat.add_zero] at e0
   rw [e0, e 1, e 2, e 3, e 4]
   exact ih
def QB (w : World) (l : List IT) (b o : Nat) : Prop := ∀ i (h : i < l.length), w.cell? ⟨b, o + i * 5, none⟩ = some (.int .u8 l[i].op) ∧ w.cell? ⟨b, o + i * 5 + 1, none⟩ = some (.int .u8 l[i].s.k) ∧ w.cell? ⟨b, o + i * 5 + 2, none⟩ = some (.string l[i].s.t) ∧ w.cell? ⟨b, o + i * 5 + 3, none⟩ = some (.int .i64 l[i].s.n) ∧ w.cell? ⟨b, o + i * 5 + 4, none⟩ = some (.int .i64 l[i].tgt)
abbrev RowI (w : World) (l : List IT) (a : Option Addr) : Prop := l.length = 0 ∨ ∃ b o, a = some ⟨b, o, none⟩ ∧ QB w l b o
theorem RowI.keep {w w' : World} {l : List IT} {a : Option Addr} (h : RowI w l a) (hb : Below w.heap.size w w') : RowI w' l a := by
 rcases h with h | ⟨b, o, e, hc⟩
 · exact Or.inl h
 · refine Or.inr ⟨b, o, e, fun i hi => ?_⟩
   obtain ⟨c0, c1, c2, c3, c4⟩ := hc i hi
   exact ⟨Ac hb c0, Ac hb c1, Ac hb c2, Ac hb c3, Ac hb c4⟩
theorem RowI.keepB {w w' : World} {l : List IT} {a : Option Addr} (h : RowI w l a) (hb : ∀ b, w.heap[b]? ≠ none → (∃ o, a = some ⟨b, o, none⟩) → w'.heap[b]? = w.heap[b]?) : RowI w' l a := by
 by_cases h0 : l.length = 0
 · exact Or.inl h0
 rcases h with h | ⟨b, o, e, hc⟩
 · exact absurd h h0
 · refine Or.inr ⟨b, o, e, fun i hi => ?_⟩
   obtain ⟨c0, c1, c2, c3, c4⟩ := hc i hi
   have hne : w.heap[b]? ≠ none := fun hn => by simp [World.cell?, hn] at c0
   have eb := hb b hne ⟨o, e⟩
   exact ⟨(World.cell?_of_block (a := ⟨b, _, none⟩) eb).trans c0, (World.cell?_of_block (a := ⟨b, _, none⟩) eb).trans c1, (World.cell?_of_block (a := ⟨b, _, none⟩) eb).trans c2, (World.cell?_of_block (a := ⟨b, _, none⟩) eb).trans c3, (World.cell?_of_block (a := ⟨b, _, none⟩) eb).trans c4⟩
theorem Ol {w : World} {B n cap : Nat} {v : Value} {l : List IT} (h : w.ownsRow B 73 5 v l.length (AW l)) : ∃ A c, v = .slice A l.length c ∧ l.length ≤ c ∧ RowI w l A ∧ (∀ b o, A = some ⟨b, o, none⟩ → B ≤ b ∧ b < w.heap.size) := by
 obtain ⟨A, c, rfl, hc, _⟩ := Bt h
 refine ⟨A, c, rfl, hc, ?_, ?_⟩
 · rcases h.2 with ⟨_, h0⟩ | ⟨g, cap, cur, e, hBg, hg, h1, h2, hcs, htk⟩
   · exact Or.inl h0
   · simp only [Value.slice.injEq] at e
     obtain ⟨rfl, _, rfl⟩ := e
     refine Or.inr ⟨g, 0, rfl, fun i hi => ?_⟩
     obtain ⟨c0, c1, c2, c3, c4⟩ := Iq l i hi
     have hl := FR l
     have at_ : ∀ j, j < 5 → w.cell? ⟨g, 0 + i * 5 + j, none⟩ = (AW l)[i * 5 + j]? := fun j hj => by
      rw [show 0 + i * 5 + j = i * 5 + j by omega]
      exact h.cellAt (i * 5 + j) (by omega)
     exact ⟨(at_ 0 (by omega)).trans c0, (at_ 1 (by omega)).trans c1, (at_ 2 (by omega)).trans c2, (at_ 3 (by omega)).trans c3, (at_ 4 (by omega)).trans c4⟩
 · intro b o e
   rcases h.2 with ⟨e2, _⟩ | ⟨g, cap, cur, e2, hBg, hg, _⟩
   · simp only [Value.slice.injEq] at e2
     obtain ⟨rfl, _, _⟩ := e2
     cases e
   · simp only [Value.slice.injEq] at e2
     obtain ⟨rfl, _, _⟩ := e2
     cases e; exact ⟨hBg, lt_of_block hg⟩
def QM (w : World) (ps : List (List IT)) (b o : Nat) : Prop := ∀ i (h : i < ps.length), ∃ A c, w.cell? ⟨b, o + i, none⟩ = some (.slice A ps[i].length c) ∧ ps[i].length ≤ c ∧ RowI w ps[i] A
def RowP (w : World) (ps : List (List IT)) (a : Option Addr) : Prop := ps.length = 0 ∨ ∃ b o, a = some ⟨b, o, none⟩ ∧ b < w.heap.size ∧ QM w ps b o
theorem RowP.keep {w w' : World} {ps : List (List IT)} {a : Option Addr} (h : RowP w ps a) (hb : Below w.heap.size w w') : RowP w' ps a := by
 rcases h with h | ⟨b, o, e, hl, hc⟩
 · exact Or.inl h
 · refine Or.inr ⟨b, o, e, Nat.lt_of_lt_of_le hl hb.size, fun i hi => ?_⟩
   obtain ⟨A, c, h1, h2, h3⟩ := hc i hi
   exact ⟨A, c, Ac hb h1, h2, h3.keep hb⟩
theorem AF {w : World} {b : Nat} {v0 v1 v2 v3 v4 : Value} {T : TypeId} (h : w.heap[b]? = some (.cells #[v0, v1, v2, v3, v4] T (0, 0))) : w.cell? ⟨b, 0, none⟩ = some v0 ∧ w.cell? ⟨b, 1, none⟩ = some v1 ∧ w.cell? ⟨b, 2, none⟩ = some v2 ∧ w.cell? ⟨b, 3, none⟩ = some v3 ∧ w.cell? ⟨b, 4, none⟩ = some v4 := by
 simp [World.cell?, h]
theorem Ho (w : World) (v0 v1 v2 v3 v4 : Value) (T : TypeId) : ∀ j u, [v0, v1, v2, v3, v4][j]? = some u → (w.alloc (.cells #[v0, v1, v2, v3, v4] T)).cell? ((⟨w.heap.size, 0, none⟩ : Addr).add j) = some u := by
 intro j u h
 obtain ⟨c0, c1, c2, c3, c4⟩ := AF (Ab w (.cells #[v0, v1, v2, v3, v4] T))
 rw [AS, Nat.zero_add]
 match j, h with
 | 0, h => cases h; exact c0
 | 1, h => cases h; exact c1
 | 2, h => cases h; exact c2
 | 3, h => cases h; exact c3
 | 4, h => cases h; exact c4
theorem Iy {w : World} {B B' : Nat} {T : TypeId} {k n : Nat} {v : Value} {xs : List Value} (h : w.ownsRow B T k v n xs) (hb : B' ≤ B) : w.ownsRow B' T k v n xs := by
 refine ⟨h.1, ?_⟩
 rcases h.2 with h0 | ⟨g, cap, cur, e, hBg, hr⟩
 · exact Or.inl h0
 · exact Or.inr ⟨g, cap, cur, e, Nat.le_trans hb hBg, hr⟩
theorem KK : ∀ (ps : List (List IT)) (out : List IT), out.length ≤ (Bk ps out).length
 | [], out => Nat.le_refl _
 | p :: r, out => by
   have := KK r (out ++ p.map (Az out.length))
   rw [List.length_append] at this
   show _ ≤ (Bk r (out ++ p.map (Az out.length))).length
   omega
def Di (w wr : World) (p : List IT) (sv : Value) : Prop := wr.ownsRow w.heap.size 73 5 sv p.length (AW p) ∧ Below w.heap.size w wr
theorem J3 {w wr w8 w2 : World} {p : List IT} {sv : Value} {x : IT} {g cap : Nat} (hO : wr.ownsRow w.heap.size 73 5 sv p.length (AW p)) (hB : Below w.heap.size w wr) (h8 : Below wr.heap.size wr w8) (hgrow : w8.grownBy w2 sv.ownBlock)
  (hown : w2.ownsRow w.heap.size 73 5 (.slice (some ⟨g, 0, none⟩) (p.length + 1) cap) (p.length + 1) (AW p ++ Ke x)) : Di w w2 (p ++ [x]) (.slice (some ⟨g, 0, none⟩) (p.length + 1) cap) := by
 refine ⟨by rw [Fw, List.length_append]; simpa [AW] using hown, ?_⟩
 have h1 := Aa hB hB.size h8
 exact h1.grown hgrow h1.size (fun k hk => (hO.lt k hk).1)
def GH (p : List IT) : Prop := ∀ x ∈ p, 0 ≤ x.tgt ∧ x.tgt ≤ 1000000000
set_option maxHeartbeats 4000000 in
set_option maxRecDepth 100000 in
theorem En (ps : List (List IT)) (A : Option Addr) (c : Nat) (w : World) (hlen : ps.length ≤ 1000) (hto : ∀ p ∈ ps, GH p) (hsum : (Bk ps []).length ≤ 1000000) (hr : RowP w ps A) :
  Calls Tryz.prog 31 #[.slice A ps.length c] w fun e w' => ∃ v, e = .returned v ∧ Di w w' (Bk ps []) v := by
 have HR := Lib.hid hr
 have HTO := Lib.hid hto
 have HSUM := Lib.hid hsum
 clear hr hto hsum
 go_enter Tryz.func31, Tryz.ntmps31
 go_wp2_with fail
 go_loopw [3, 11] (fun s3 s11 wr => ∃ (i : Nat) (out : List IT) (sv : Value), s3 = sv ∧ s11 = .int .i64 i ∧ i ≤ ps.length ∧ Hid (Bk (ps.drop i) out = Bk ps []) ∧ Di w wr out sv) (fun _ s11 _ => ps.length - (intOf s11).toNat)
 case atStart => exact ⟨0, [], _, rfl, rfl, Nat.zero_le _, Lib.hid rfl, World.ownsRow_nil _ _ _ _, Below.refl _ _⟩
 case round =>
  obtain ⟨i, o1, sv, e3, rfl, hil, HJ, hat⟩ := hrel
  have e3 := e3.symm
  subst e3
  have HAT := Lib.hid hat
  have HB := Lib.hid hat.2
  obtain ⟨A2, c2, rfl, hl2, _⟩ := Bt hat.1
  clear hat
  by_cases hlt : i < ps.length
  · rcases HR.out with h0 | ⟨b, o, rfl, hbs, hc⟩
    · omega
    obtain ⟨A1, c1, hcell, hcl, hrow⟩ := hc i hlt
    have hcell := Ac HB.out hcell
    have HT1 := Lib.hid (HTO.out _ (List.getElem_mem hlt))
    have hj := HJ.out
    rw [List.drop_eq_getElem_cons hlt, Bk] at hj
    have hln := KK (ps.drop (i + 1)) (o1 ++ ps[i].map (Az o1.length))
    rw [hj] at hln
    have hs1 := HSUM.out
    rw [List.length_append, List.length_map] at hln
    obtain ⟨p, hp⟩ : ∃ p, ps[i] = p := ⟨_, rfl⟩
    rw [hp] at hcell hcl hrow HT1 hj hln
    have HJ2 := Lib.hid hj
    have HROW := Lib.hid hrow
    have hpl : p.length ≤ 1000000 := by omega
    have hol : o1.length ≤ 1000000 := by omega
    have hol2 : o1.length + p.length ≤ 1000000 := by omega
    clear hc hrow hj hp hln hs1 hbs
    go_wp2_with fail
    go_loopw [3, 19] (fun s3 s19 w3 => ∃ (j : Nat) (sv : Value), s3 = sv ∧ s19 = .int .i64 j ∧ j ≤ p.length ∧ Di w w3 (o1 ++ (p.take j).map (Az o1.length)) sv) (fun _ s19 _ => p.length - (intOf s19).toNat)
    case atStart => exact ⟨0, _, rfl, rfl, Nat.zero_le _, by simpa using HAT.out⟩
    case round =>
      obtain ⟨j, sv, e3, rfl, hjl, hat⟩ := hrel
      have e3 := e3.symm
      subst e3
      clear hcell
      have HAT3 := Lib.hid hat
      have HO := Lib.hid hat.1
      have HB3 := Lib.hid hat.2
      clear hat
      by_cases hjt : j < p.length
      · rcases HROW.out with h0 | ⟨b1, q1, rfl, hin⟩
        · omega
        obtain ⟨x0, x1, x2, x3, x4⟩ := hin j hjt
        have hxt := HT1.out _ (List.getElem_mem hjt)
        have HSH : Hid (o1 ++ (p.take (j + 1)).map (Az o1.length) = (o1 ++ (p.take j).map (Az o1.length)) ++ [Az o1.length p[j]]) := Lib.hid (by rw [List.take_succ_eq_append_getElem hjt, List.map_append, List.append_assoc]; rfl)
        obtain ⟨x, hx⟩ : ∃ x, p[j] = x := ⟨_, rfl⟩
        rw [hx] at x0 x1 x2 x3 x4 hxt HSH
        have x0 := Ac HB3.out x0
        have x1 := Ac HB3.out x1
        have x2 := Ac HB3.out x2
        have x3 := Ac HB3.out x3
        have x4 := Ac HB3.out x4
        obtain ⟨hx0, hx1⟩ := hxt
        have hpn : (o1 ++ (p.take j).map (Az o1.length)).length = o1.length + j := by simp; omega
        have HPN := Lib.hid hpn
        obtain ⟨ol, hol⟩ : ∃ x, o1 ++ (p.take j).map (Az o1.length) = x := ⟨_, rfl⟩
        rw [hol] at HPN HSH HO
        clear hin hx hpn hol HAT3
        by_cases h0 : 0 < x.tgt
        · have HX : Hid (Az o1.length x = ⟨x.op, x.s, x.tgt + o1.length⟩) := Lib.hid (if_pos h0)
          have d0 : decide (0 < x.tgt) = true := decide_eq_true h0
          go_upto_region 11 with (fail)
          have hx8 := Ab wr (.cells #[.int .u8 x.op, .int .u8 x.s.k, .string x.s.t, .int .i64 x.s.n, .int .i64 (x.tgt + (o1.length : Int))] 73)
          have hb8 := Ad (w := wr) (.cells #[.int .u8 x.op, .int .u8 x.s.k, .string x.s.t, .int .i64 x.s.n, .int .i64 (x.tgt + (o1.length : Int))] 73)
          have hs8 : (wr.alloc (.cells #[.int .u8 x.op, .int .u8 x.s.k, .string x.s.t, .int .i64 x.s.n, .int .i64 (x.tgt + (o1.length : Int))] 73)).heap.size = wr.heap.size + 1 := by simp
          generalize wr.alloc (.cells #[.int .u8 x.op, .int .u8 x.s.k, .string x.s.t, .int .i64 x.s.n, .int .i64 (x.tgt + (o1.length : Int))] 73) = w8 at *
          obtain ⟨tg', ht'⟩ : ∃ t : Int, x.tgt + (o1.length : Int) = t := ⟨_, rfl⟩
          rw [ht'] at HX hx8
          have hown8 := AM HO.out hb8
          have HB8 := Lib.hid hb8
          have HS8 := Lib.hid hs8
          have HOW8 := Lib.hid hown8
          obtain ⟨q0, q1, q2, q3, q4⟩ := AF hx8
          obtain ⟨i0, hi0, hz00, hz1, hz2⟩ := info_parts Tryz.infoI
          clear hb8 hs8 hx8 hown8 ht' x0 x1 x2 x3 x4 d0 h0
          have E1 : Hid (ol.length + 1 ≤ maxLen) := Lib.hid (by have := HPN.out; unfold maxLen; omega)
          have E2 : Hid ((ol.length + 1) * 48 ≤ 140737488355328) := Lib.hid (by have := HPN.out; omega)
          have E3 : Hid (w.heap.size ≤ (w8.alloc (.cells #[.int .u8 x.op, .int .u8 x.s.k, .string x.s.t, .int .i64 x.s.n, .int .i64 tg'] 73)).heap.size) := Lib.hid (by have := HS8.out; have := HB3.out.size; simp; omega)
          have E5 : Hid (∀ u ∈ ([.int .u8 x.op, .int .u8 x.s.k, .string x.s.t, .int .i64 x.s.n, .int .i64 tg'] : List Value), u.oneCell' = true) := Lib.hid (by intro u hu; simp only [List.mem_cons, List.not_mem_nil, or_false] at hu; rcases hu with rfl | rfl | rfl | rfl | rfl <;> rfl)
          go_wp2_with (at_builtin; refine wpList_append_lies _ rfl _ _ 37 rfl w.heap.size 73 i0 (.agg #[.int .u8 0, .int .u8 0, .string ⟨#[]⟩, .int .i64 0, .int .i64 0]) 5 48 Tryz.underlying37 hi0 hz00 hz1 hz2 rfl (by decide) sv ol.length (AW ol) (by rfl) (HOW8.out.alloc _) ⟨w8.heap.size, 0, none⟩ 1 1 [.int .u8 x.op, .int .u8 x.s.k, .string x.s.t, .int .i64 x.s.n, .int .i64 tg'] (by rfl) rfl (Ho w8 _ _ _ _ _ _) E5.out (by decide) E1.out E2.out E3.out (w8.heap.size + 1) (by simp) ?_; intro g' cap w2 hown hgrow hat2 hlt2; have HNX := Lib.hid (J3 (x := ⟨x.op, x.s, tg'⟩) HO.out HB3.out (Aa HB8.out HB8.out.size (Ad _)) hgrow hown); clear hown hgrow hat2 hlt2)
          go_roundw
          case rel => exact ⟨j + 1, _, rfl, by go_num, by omega, by rw [HSH.out, HX.out]; exact HNX.out⟩
          case measure => simp [intOf]; omega
        · have HX : Hid (Az o1.length x = ⟨x.op, x.s, x.tgt⟩) := Lib.hid (if_neg h0)
          have d0 : decide (0 < x.tgt) = false := decide_eq_false h0
          go_upto_region 11 with (fail)
          have hx8 := Ab wr (.cells #[.int .u8 x.op, .int .u8 x.s.k, .string x.s.t, .int .i64 x.s.n, .int .i64 x.tgt] 73)
          have hb8 := Ad (w := wr) (.cells #[.int .u8 x.op, .int .u8 x.s.k, .string x.s.t, .int .i64 x.s.n, .int .i64 x.tgt] 73)
          have hs8 : (wr.alloc (.cells #[.int .u8 x.op, .int .u8 x.s.k, .string x.s.t, .int .i64 x.s.n, .int .i64 x.tgt] 73)).heap.size = wr.heap.size + 1 := by simp
          generalize wr.alloc (.cells #[.int .u8 x.op, .int .u8 x.s.k, .string x.s.t, .int .i64 x.s.n, .int .i64 x.tgt] 73) = w8 at *
          obtain ⟨tg', ht'⟩ : ∃ t : Int, x.tgt = t := ⟨_, rfl⟩
          rw [ht'] at HX hx8
          have hown8 := AM HO.out hb8
          have HB8 := Lib.hid hb8
          have HS8 := Lib.hid hs8
          have HOW8 := Lib.hid hown8
          obtain ⟨q0, q1, q2, q3, q4⟩ := AF hx8
          obtain ⟨i0, hi0, hz00, hz1, hz2⟩ := info_parts Tryz.infoI
          clear hb8 hs8 hx8 hown8 ht' x0 x1 x2 x3 x4 d0 h0
          have E1 : Hid (ol.length + 1 ≤ maxLen) := Lib.hid (by have := HPN.out; unfold maxLen; omega)
          have E2 : Hid ((ol.length + 1) * 48 ≤ 140737488355328) := Lib.hid (by have := HPN.out; omega)
          have E3 : Hid (w.heap.size ≤ (w8.alloc (.cells #[.int .u8 x.op, .int .u8 x.s.k, .string x.s.t, .int .i64 x.s.n, .int .i64 tg'] 73)).heap.size) := Lib.hid (by have := HS8.out; have := HB3.out.size; simp; omega)
          have E5 : Hid (∀ u ∈ ([.int .u8 x.op, .int .u8 x.s.k, .string x.s.t, .int .i64 x.s.n, .int .i64 tg'] : List Value), u.oneCell' = true) := Lib.hid (by intro u hu; simp only [List.mem_cons, List.not_mem_nil, or_false] at hu; rcases hu with rfl | rfl | rfl | rfl | rfl <;> rfl)
          go_wp2_with (at_builtin; refine wpList_append_lies _ rfl _ _ 37 rfl w.heap.size 73 i0 (.agg #[.int .u8 0, .int .u8 0, .string ⟨#[]⟩, .int .i64 0, .int .i64 0]) 5 48 Tryz.underlying37 hi0 hz00 hz1 hz2 rfl (by decide) sv ol.length (AW ol) (by rfl) (HOW8.out.alloc _) ⟨w8.heap.size, 0, none⟩ 1 1 [.int .u8 x.op, .int .u8 x.s.k, .string x.s.t, .int .i64 x.s.n, .int .i64 tg'] (by rfl) rfl (Ho w8 _ _ _ _ _ _) E5.out (by decide) E1.out E2.out E3.out (w8.heap.size + 1) (by simp) ?_; intro g' cap w2 hown hgrow hat2 hlt2; have HNX := Lib.hid (J3 (x := ⟨x.op, x.s, tg'⟩) HO.out HB3.out (Aa HB8.out HB8.out.size (Ad _)) hgrow hown); clear hown hgrow hat2 hlt2)
          go_roundw
          case rel => exact ⟨j + 1, _, rfl, by go_num, by omega, by rw [HSH.out, HX.out]; exact HNX.out⟩
          case measure => simp [intOf]; omega
      · have hfull : p.take j = p := List.take_of_length_le (by omega)
        rw [hfull] at HAT3
        clear hfull
        go_wp2_with fail
        go_roundw
        case rel => exact ⟨i + 1, _, _, rfl, by go_num, by omega, HJ2, HAT3.out⟩
        case measure => simp [intOf]; omega
  · have hfull : ps.drop i = [] := List.drop_of_length_le (by omega)
    have hj := HJ.out
    rw [hfull] at hj
    have hj : o1 = Bk ps [] := hj
    have HJJ := Lib.hid hj
    clear hfull hj HJ
    go_wp2_with fail
    go_ret
    exact ⟨_, rfl, by rw [← HJJ.out]; exact HAT.out⟩
theorem QO {w : World} {b : Nat} {v0 v1 v2 v3 : Value} {T : TypeId} (h : w.heap[b]? = some (.cells #[v0, v1, v2, v3] T (0, 0))) : w.cell? ⟨b, 0, none⟩ = some v0 ∧ w.cell? ⟨b, 1, none⟩ = some v1 ∧ w.cell? ⟨b, 2, none⟩ = some v2 ∧ w.cell? ⟨b, 3, none⟩ = some v3 := by
 simp [World.cell?, h]
theorem NI (w : World) (v0 v1 v2 v3 : Value) (T : TypeId) : (w.alloc (.cells #[v0, v1, v2, v3] T)).cell? ⟨w.heap.size, 0, none⟩ = some v0 ∧ (w.alloc (.cells #[v0, v1, v2, v3] T)).cell? ⟨w.heap.size, 1, none⟩ = some v1 ∧ (w.alloc (.cells #[v0, v1, v2, v3] T)).cell? ⟨w.heap.size, 2, none⟩ = some v2 ∧ (w.alloc (.cells #[v0, v1, v2, v3] T)).cell? ⟨w.heap.size, 3, none⟩ = some v3 := QO (Ab w _)
theorem Ml {w : World} {g : Nat} {x : IT} (h : w.heap[g]? = some (.cells #[.int .u8 x.op, .int .u8 x.s.k, .string x.s.t, .int .i64 x.s.n, .int .i64 x.tgt] 73 (0, 0))) : RowI w [x] (some ⟨g, 0, none⟩) := by
 obtain ⟨c0, c1, c2, c3, c4⟩ := AF h
 refine Or.inr ⟨g, 0, rfl, fun i hi => ?_⟩
 obtain rfl : i = 0 := by simpa using hi
 exact ⟨c0, c1, c2, c3, c4⟩
set_option maxHeartbeats 4000000 in
set_option maxRecDepth 100000 in
theorem Gp (jump behind : Int) (a b : List IT) (A B : Option Addr) (ca cb : Nat) (w : World) (hla : a.length ≤ 300) (hlb : b.length ≤ 300) (hta : GH a) (htb : GH b) (hca : a.length ≤ ca) (hcb : b.length ≤ cb) (hra : RowI w a A) (hrb : RowI w b B) :
  Calls Tryz.prog 30 #[.int .u8 jump, .int .u8 behind, .slice A a.length ca, .slice B b.length cb] w fun e w' => ∃ v, e = .returned v ∧ Di w w' (AU jump behind a b) v := by
 have hw2 : wrap64 ((b.length : Int) + 2) = (b.length : Int) + 2 := IntWalk.wrap64_in _ (by omega)
 have hw3 : IntKind.i64.wrap ((b.length : Int) + 2) = (b.length : Int) + 2 := IntWalk.i64_in _ (by omega)
 obtain ⟨W1, hW1⟩ : ∃ W, w.alloc (.cells #[.int .u8 jump, .int .u8 0, .string ⟨#[]⟩, .int .i64 0, .int .i64 ((b.length : Int) + 2)] 73) = W := ⟨_, rfl⟩
 obtain ⟨W2, hW2⟩ : ∃ W, W1.alloc (.cells #[.int .u8 behind, .int .u8 0, .string ⟨#[]⟩, .int .i64 0, .int .i64 0] 73) = W := ⟨_, rfl⟩
 have hs1 : W1.heap.size = w.heap.size + 1 := by rw [← hW1]; simp
 have hs2 : W2.heap.size = w.heap.size + 1 + 1 := by rw [← hW2]; simp [hs1]
 have hb1 : Below w.heap.size w W1 := by rw [← hW1]; exact Ad _
 have hb2 : Below W1.heap.size W1 W2 := by rw [← hW2]; exact Ad _
 have hj1 : W1.heap[w.heap.size]? = some (.cells #[.int .u8 jump, .int .u8 0, .string ⟨#[]⟩, .int .i64 0, .int .i64 ((b.length : Int) + 2)] 73 (0, 0)) := by rw [← hW1]; exact Ab w _
 have hj2 : W2.heap[W1.heap.size]? = some (.cells #[.int .u8 behind, .int .u8 0, .string ⟨#[]⟩, .int .i64 0, .int .i64 0] 73 (0, 0)) := by rw [← hW2]; exact Ab W1 _
 obtain ⟨W3, hW3⟩ : ∃ W, W2.alloc (.cells #[.slice A a.length ca, .slice (some ⟨w.heap.size, 0, none⟩) 1 1, .slice B b.length cb, .slice (some ⟨W1.heap.size, 0, none⟩) 1 1] 37) = W := ⟨_, rfl⟩
 have hb3 : Below W2.heap.size W2 W3 := by rw [← hW3]; exact Ad _
 obtain ⟨c0, c1, c2, c3⟩ := NI W2 (.slice A a.length ca) (.slice (some ⟨w.heap.size, 0, none⟩) 1 1) (.slice B b.length cb) (.slice (some ⟨W1.heap.size, 0, none⟩) 1 1) 37
 rw [hW3] at c0 c1 c2 c3
 have hbw : Below w.heap.size w W3 := Aa (Aa hb1 hb1.size hb2) (Aa hb1 hb1.size hb2).size hb3
 have hrow : RowP W3 [a, [⟨jump, zS, (b.length : Int) + 2⟩], b, [⟨behind, zS, 0⟩]] (some ⟨W2.heap.size, 0, none⟩) := by
  refine Or.inr ⟨W2.heap.size, 0, rfl, by rw [← hW3]; simp, fun i hi => ?_⟩
  match i, hi with
  | 0, _ => exact ⟨A, ca, c0, hca, hra.keep hbw⟩
  | 1, _ => exact ⟨_, 1, c1, Nat.le_refl _, Ml (blk hb3 (blk hb2 hj1))⟩
  | 2, _ => exact ⟨B, cb, c2, hcb, hrb.keep hbw⟩
  | 3, _ => exact ⟨_, 1, c3, Nat.le_refl _, Ml (blk hb3 hj2)⟩
 have hto : ∀ p ∈ [a, [(⟨jump, zS, (b.length : Int) + 2⟩ : IT)], b, [⟨behind, zS, 0⟩]], GH p := by
  intro p hp
  simp only [List.mem_cons, List.not_mem_nil, or_false] at hp
  rcases hp with rfl | rfl | rfl | rfl
  · exact hta
  · intro x hx; simp only [List.mem_singleton] at hx; subst hx; exact ⟨by show (0 : Int) ≤ (b.length : Int) + 2; omega, by show (b.length : Int) + 2 ≤ _; omega⟩
  · exact htb
  · intro x hx; simp only [List.mem_singleton] at hx; subst hx; exact ⟨by show (0 : Int) ≤ 0; omega, by show (0 : Int) ≤ 1000000000; omega⟩
 have hln : (Bk [a, [(⟨jump, zS, (b.length : Int) + 2⟩ : IT)], b, [⟨behind, zS, 0⟩]] []).length ≤ 1000000 := by simp [Bk]; omega
 have HJ := Lib.hid (En [a, [⟨jump, zS, (b.length : Int) + 2⟩], b, [⟨behind, zS, 0⟩]] (some ⟨W2.heap.size, 0, none⟩) 4 W3 (by simp) hto hln hrow)
 have HBW := Lib.hid hbw
 have HE : Hid (((w.alloc (.cells #[.int .u8 jump, .int .u8 0, .string ⟨#[]⟩, .int .i64 0, .int .i64 ((b.length : Int) + 2)] 73)).alloc (.cells #[.int .u8 behind, .int .u8 0, .string ⟨#[]⟩, .int .i64 0, .int .i64 0] 73)).alloc (.cells #[.slice A a.length ca, .slice (some ⟨w.heap.size, 0, none⟩) 1 1, .slice B b.length cb, .slice (some ⟨w.heap.size + 1, 0, none⟩) 1 1] 37) = W3) := Lib.hid (by rw [hW1, hW2, ← hs1]; exact hW3)
 have HS2 : Hid (W2.heap.size = w.heap.size + 1 + 1) := Lib.hid hs2
 clear hra hrb hta htb hW1 hW2 hs1 hb1 hb2 hj1 hj2 hW3 hb3 c0 c1 c2 c3 hbw hrow hto hln hs2
 go_enter Tryz.func30, Tryz.ntmps30
 go_wp2_with (go_at_call 31; rw [HE.out, ← HS2.out]; refine (HJ.out).mono ?_; rintro e w5 ⟨v, rfl, hj⟩; have HJJ := Lib.hid hj; clear hj)
 go_ret
 exact ⟨_, rfl, Iy HJJ.out.1 HBW.out.size, Aa HBW.out HBW.out.size HJJ.out.2⟩
end Go.Proofs.YtbemgcjckchdjaaGreatDoor
