/-
  A part of the proof of what E53 says at its head.
-/
import Derived.Test.YtocogcgnahbpkaaGreatE34
namespace Go.SL
open Go.Proofs Go.Proofs.YtocogcgnahbpkaaGreat
open Rs (Nd)
set_option maxRecDepth 10000
structure BkL where
  A : Option Addr
  n : Nat
  c : Nat
  m : Int
def bkV (y : BkL) : Value := .slice y.A y.n y.c
def bkM (y : BkL) : Value := bc y.m
def BkRd (l : List BkL) : HP := fun r => ∀ y ∈ l, Rd false y.A (List.replicate y.n (bc y.m)) r
def BkP (LA : Option Addr) (ln lc : Nat) (MA : Option Addr) (mc : Nat) : HP := fun r => ∃ l : List BkL, (l.length = ln ∧ ∀ y ∈ l, y.n ≤ 140737488355328) ∧ Stars [Gr 1 65 LA ln lc (l.map bkV), Gr 1 5 MA ln mc (l.map bkM), BkRd l] r
def NBk (b pp : Nat) (c : Cfg) (h : RW) (s : Nd) (x : RX) : HP := fun r => ∃ LA ln lc MA mc, ln ≤ 400 ∧ Stars [Blk true b (ncells pp c h s x LA ln lc MA ln mc) 97, BkP LA ln lc MA mc] r
theorem Rd.rep {A : Option Addr} {n m : Nat} {v : Value} {r : Res} (h : Rd false A (List.replicate m v) r) (hn : n ≤ m) : Rd false A (List.replicate n v) r := by
  rw [show m = n + (m - n) by omega, ← List.replicate_append_replicate] at h; exact h.front
theorem BkRd.snoc {l : List BkL} {y z : BkL} {L : List HP} : Ent (BkRd l :: Rd false y.A (List.replicate y.n (bc y.m)) :: Rd false z.A (List.replicate z.n (bc z.m)) :: L) (BkRd (l ++ [y, z]) :: L) :=
  (Ent.unstar (l := [_, _, _])).trans (.of fun r ⟨r1, r2, a, b, _, d1, s1, s2, a', b', _, d', t1, t2, a'', b'', _, d'', _⟩ => fun u hu => by
    rcases List.mem_append.1 hu with hu | hu
    · exact (d1 u hu).le a
    · rcases List.mem_cons.1 hu with rfl | hu
      · exact (d'.le a').le b
      · rw [List.mem_singleton.1 hu]; exact ((d''.le a'').le b').le b)
section
variable {P : Program} {n f : Nat} {e : Env} {L L' : List HP} {R : Fin} {k : List Item} {ds : List Deferred} {c : Cfg} {h : RW} {s : Nd} {x : RX} {b pp : Nat}
theorem W.nbk (H : ∀ LA ln lc MA mc (l : List BkL), ln ≤ 400 → l.length = ln → (∀ y ∈ l, y.n ≤ 140737488355328) → W P f n R k e ds (Blk true b (ncells pp c h s x LA ln lc MA ln mc) 97 :: Gr 1 65 LA ln lc (l.map bkV) :: Gr 1 5 MA ln mc (l.map bkM) :: BkRd l :: L)) : W P f n R k e ds (NBk b pp c h s x :: L) := by
  intro F b0 cs t w h1 h2 h3 h4
  obtain ⟨r, a, r1, r2, q1, q2, q3, ⟨LA, ln, lc, MA, mc, hl, r3, r4, q4, q5, q6, hb, r5, r6, q7, q8, q9, ⟨l, ⟨g1, g2⟩, g3⟩, _⟩, v⟩ := h4
  have e1 : Sat w (Stars [Blk true b (ncells pp c h s x LA ln lc MA ln mc) 97, Stars [Gr 1 65 LA ln lc (l.map bkV), Gr 1 5 MA ln mc (l.map bkM), BkRd l]] :: (L ++ [F])) := ⟨r, a, r1, r2, q1, q2, q3, ⟨r3, r4, q4, q5, q6, hb, r5, r6, q7, q8, q9, g3, trivial⟩, v⟩
  exact H LA ln lc MA mc l hl g1 g2 F b0 cs t w h1 h2 h3 (e1.ent (Ent.star.trans (.cons _ Ent.star)))
theorem NBk.shut {LA MA : Option Addr} {ln lc mc : Nat} {l : List BkL} (h1 : ln ≤ 400) (h2 : l.length = ln) (h3 : ∀ y ∈ l, y.n ≤ 140737488355328) : Ent (Blk true b (ncells pp c h s x LA ln lc MA ln mc) 97 :: Gr 1 65 LA ln lc (l.map bkV) :: Gr 1 5 MA ln mc (l.map bkM) :: BkRd l :: L) (NBk b pp c h s x :: L) :=
  (Ent.cons _ (Ent.unstar (l := [_, _, _]))).trans ((Ent.unstar (l := [_, _])).trans (.of fun r ⟨r3, r4, q4, q5, q6, hb, r5, r6, q7, q8, q9, g3, t⟩ => ⟨LA, ln, lc, MA, mc, h1, r3, r4, q4, q5, q6, hb, r5, r6, q7, q8, q9, ⟨l, ⟨h2, h3⟩, g3⟩, t⟩))
end
theorem Rd.sh {A : Option Addr} {cs : List Value} {r : Res} (h : Rd false A cs r) : Rd false A cs r.sh := Rd.pers r h
theorem Stars.lend2 {A B : Option Addr} {cs ds : List Value} {r : Res} (h1 : Rd false A cs r) (h2 : Rd false B ds r) : Stars [Rd false A cs, Rd false B ds] r :=
  ⟨r.sh, r.sh, Res.sh_le r, Res.sh_le r, Res.sep_shsh r, h1.sh, r.sh, fun _ => none, .refl _, fun _ _ _ h => (nomatch h), fun _ _ _ _ _ _ h => (nomatch h), h2.sh, trivial⟩
theorem BkRd.drop {l : List BkL} {r : Res} (k : Nat) (h : BkRd l r) : BkRd (l.drop k) r := fun y hy => h y (List.mem_of_mem_drop hy)
def GrW (A : Option Addr) (n c i : Nat) (v : Value) : HP := fun r => ∃ cs : List Value, cs.take i = List.replicate i v ∧ Gr 1 5 A n c cs r
def KeepP (A A2 : Option Addr) (n : Nat) (v : Value) : HP := fun r => A2 = A ∨ Rd false A (List.replicate n v) r
attribute [local irreducible] W RS RG RT RD Fn FnQ OpS QOp Own Sat Rd Gr Mp Rg Lg Ms Es Nod Rp NodI RLg RMs REs RN RLd RNF EsD MsD NBk BkP BkRd
section
variable {c : Cfg} {s : Nd} {h : RW} {x : RX} {b pp : Nat} {A : Option Addr} {n cp : Nat}
theorem take_ok (hn : n ≤ 140737488351232) : Fn Tryz.prog 61 [.pointer (some ⟨b, 27, none⟩), .slice A n cp].toArray [NBk b pp c h s x, GrX 1 5 A n cp] (Det (.tuple #[]) [NBk b pp c h s x]) := by
  refine Fn.enter Tryz.func61 rfl (by kernel_rfl) rfl ?_
  refine .nbk fun LA ln lc MA mc l hl hll hlb => ?_
  refine run ?_
  refine .quiet rfl rfl rfl (Q.quo rfl rfl rfl (by decide)) ?_
  refine .quiet rfl rfl rfl (Q.rem rfl rfl rfl (by decide)) ?_
  have hq1 := Int.tmod_lt_of_pos (IntKind.i64.wrap ((ln : Int).tdiv 2)) (show (0 : Int) < 250 by decide)
  have hq2 := Int.lt_tmod_of_pos (IntKind.i64.wrap ((ln : Int).tdiv 2)) (show (0 : Int) < 250 by decide)
  generalize (IntKind.i64.wrap ((ln : Int).tdiv 2)).tmod 250 = q at hq1 hq2
  refine run ?_
  refine .quiet rfl rfl rfl (Q.convInt rfl rfl rfl rfl rfl) ?_
  refine .hit 15 rfl (rfl : _ = bc (IntKind.u8.wrap (1 + q))) ?_
  generalize IntKind.u8.wrap (1 + q) = m
  refine run ?_
  refine .ent ((Picks.ent (a := [GrX 1 5 A n cp]) picks).trans (Ent.of (Y := GrW A n cp 0 (bc m)) fun r ⟨cs, hc⟩ => ⟨cs, rfl, hc⟩)) ?_
  refine W.loopH (ι := Nat) (fun i => i ≤ n) (fun i => [(0, .pointer (some ⟨b, 27, none⟩)), (1, .slice A n cp), (4, bc m), (5, nv i)])
    (fun i => [GrW A n cp i (bc m), Blk true b (ncells pp c h s x LA ln lc MA ln mc) 97, Gr 1 65 LA ln lc (l.map bkV), Gr 1 5 MA ln mc (l.map bkM), BkRd l]) (fun i => n - i) 0 (Nat.zero_le _) subs (Picks.sub picks) ?_
  intro i hi ih
  by_cases hil : i < n
  · unfold GrW
    refine .ex fun cs => ?_
    refine .pur fun hcs => ?_
    refine W.fact (fun w h => Gr.len h) fun hcl => ?_
    refine W.fact (fun w h => IsA.of (k := i) (Reads.gr (sz := 1) (E := 5)) .hd (by omega) h) fun hA => ?_
    refine run ?_
    refine .det0 rfl rfl (O.storeRow rfl rfl rfl rfl rfl rfl .hd (by rw [hcl]; exact Nat.mul_lt_mul_of_pos_right hil (by decide))) ?_
    refine run ?_
    refine .ent (Ent.of (Y := GrW A n cp (i + 1) (bc m)) fun r h => ⟨_, ?_, h⟩) ?_
    · have hcl2 : i < cs.length := by omega
      rw [Nat.mul_one, List.take_set, List.take_succ_eq_append_getElem hcl2, hcs, List.set_append_right _ _ (by simp), List.length_replicate, Nat.sub_self]
      simp [List.replicate_succ']
    · exact .back (ih (i + 1) (by omega) (by omega))
  · have hin : i = n := by omega
    subst hin
    unfold GrW
    refine .ex fun cs => ?_
    refine .pur fun hcs => ?_
    refine W.fact (fun w h => Gr.len h) fun hcl => ?_
    have e1 : cs = List.replicate i (bc m) := by rw [← hcs, List.take_of_length_le (by omega)]
    subst e1
    refine run ?_
    refine .lit fun z => ?_
    refine .pushK (sz := 1) (m := 1) (Src.pick (cs := [bc m]) rfl rfl .hd .own rfl rfl rfl) fun A2 c2 M hM => ?_
    have hE : Ent M [Gr 1 5 A2 (i + 1) c2 (List.replicate (i + 1) (bc m)), KeepP A A2 i (bc m), Blk true b (ncells pp c h s x LA ln lc MA ln mc) 97, Gr 1 65 LA ln lc (l.map bkV), Gr 1 5 MA ln mc (l.map bkM), BkRd l] := by
      rw [List.replicate_succ']
      rcases hM with ⟨rfl, rfl⟩ | rfl
      · exact (Ent.mk (X := KeepP A2 A2 i (bc m)) fun r => .inl rfl).trans (Picks.sub picks)
      · exact (Picks.ent (a := [Gr 1 5 A i cp (List.replicate i (bc m))]) picks).trans ((Ent.of (Y := KeepP A A2 i (bc m)) fun r hr => .inr hr.rd.lend).trans (Picks.sub picks))
    refine .ent hE ?_
    clear hE hM
    refine run ?_
    refine W.loopH (ι := Nat × Option Addr × Nat) (fun j => i + 1 ≤ j.1 ∧ j.1 ≤ i + 70) (fun j => [(0, .pointer (some ⟨b, 27, none⟩)), (1, .slice A i cp), (4, bc m), (6, .slice j.2.1 j.1 j.2.2)])
      (fun j => [Gr 1 5 j.2.1 j.1 j.2.2 (List.replicate j.1 (bc m)), KeepP A j.2.1 i (bc m), Blk true b (ncells pp c h s x LA ln lc MA ln mc) 97, Gr 1 65 LA ln lc (l.map bkV), Gr 1 5 MA ln mc (l.map bkM), BkRd l]) (fun j => i + 70 - j.1) (i + 1, A2, c2) ⟨by dsimp only; omega, by dsimp only; omega⟩ subs (.refl _) ?_
    clear A2 c2 ih
    rintro ⟨j, A2, c2⟩ ⟨hj1, hj2⟩ ih
    dsimp only at hj1 hj2 ih ⊢
    by_cases hjl : j < i + 70
    · refine run ?_
      refine .lit fun z => ?_
      refine .pushK (sz := 1) (m := 1) (Src.pick (cs := [bc m]) rfl rfl .hd .own rfl rfl rfl) fun A3 c3 M hM => ?_
      have hE : Ent M [Gr 1 5 A3 (j + 1) c3 (List.replicate (j + 1) (bc m)), KeepP A A3 i (bc m), Blk true b (ncells pp c h s x LA ln lc MA ln mc) 97, Gr 1 65 LA ln lc (l.map bkV), Gr 1 5 MA ln mc (l.map bkM), BkRd l] := by
        rw [List.replicate_succ' (n := j)]
        rcases hM with ⟨rfl, rfl⟩ | rfl
        · exact Picks.sub picks
        · refine (Picks.ent (a := [KeepP A A2 i (bc m), Gr 1 5 A2 j c2 (List.replicate j (bc m))]) picks).trans ((Ent.unstar (l := [_, _])).trans ((Ent.of (Y := KeepP A A3 i (bc m)) ?_).trans (Picks.sub picks)))
          rintro r ⟨r1, r2, a, b, _, d1, s1, s2, a', b', _, d', _⟩
          rcases d1 with e | d1
          · exact .inr ((Rd.rep (by rw [← e]; exact d'.rd.lend) (by omega)).le (a'.trans b))
          · exact .inr (d1.le a)
      refine .ent hE ?_
      clear hE hM
      refine run ?_
      exact .back (ih (j + 1, A3, c3) ⟨by dsimp only; omega, by dsimp only; omega⟩ (by dsimp only; omega))
    · have hj : j = i + 70 := by omega
      refine run ?_
      refine .lit fun z => ?_
      refine .push (sz := 1) (m := 2) (Src.pick (cs := [bkV ⟨A, i, cp, m⟩, bkV ⟨A2, j, c2, m⟩]) rfl rfl .hd .own rfl rfl rfl) fun A4 c4 => ?_
      refine run ?_
      refine .lit fun z => ?_
      refine .push (sz := 1) (m := 2) (Src.pick (cs := [bkM ⟨A, i, cp, m⟩, bkM ⟨A2, j, c2, m⟩]) rfl rfl .hd .own rfl rfl rfl) fun A5 c5 => ?_
      refine .ent ((Picks.ent (a := [KeepP A A2 i (bc m), Gr 1 5 A2 j c2 (List.replicate j (bc m))]) picks).trans ((Ent.unstar (l := [_, _])).trans ((Ent.of (Y := Stars [Rd false A (List.replicate i (bc m)), Rd false A2 (List.replicate j (bc m))]) ?_).trans Ent.star))) ?_
      · rintro r ⟨r1, r2, a, b, _, d1, s1, s2, a', b', _, d', _⟩
        have h2 : Rd false A2 (List.replicate j (bc m)) r := (d'.rd.lend.le a').le b
        have h1 : Rd false A (List.replicate i (bc m)) r := by
          rcases d1 with e | d1
          · rw [← e]; exact h2.rep (by omega)
          · exact d1.le a
        exact Stars.lend2 h1 h2
      refine .ent ((Picks.ent (a := [BkRd l, Rd false A (List.replicate i (bc m)), Rd false A2 (List.replicate j (bc m))]) picks).trans (BkRd.snoc (y := ⟨A, i, cp, m⟩) (z := ⟨A2, j, c2, m⟩))) ?_
      have hl2 : (l ++ [⟨A, i, cp, m⟩, ⟨A2, j, c2, m⟩] : List BkL).length = ln + 2 := by simp [hll]
      have hb2 : ∀ y ∈ (l ++ [⟨A, i, cp, m⟩, ⟨A2, j, c2, m⟩] : List BkL), y.n ≤ 140737488355328 := fun y hy => by
        rcases List.mem_append.1 hy with hy | hy
        · exact hlb y hy
        · rcases List.mem_cons.1 hy with rfl | hy
          · dsimp only; omega
          · rw [List.mem_singleton.1 hy]; dsimp only; omega
      by_cases hbig : 400 < ln + 2
      · refine run ?_
        refine .quiet rfl rfl rfl (Q.sliceFrom (lo := 200) rfl rfl rfl rfl rfl rfl (by omega)) ?_
        refine run ?_
        refine .quiet rfl rfl rfl (Q.sliceFrom (lo := 200) rfl rfl rfl rfl rfl rfl (by omega)) ?_
        refine run ?_
        generalize hnl : l ++ ([⟨A, i, cp, m⟩, ⟨A2, j, c2, m⟩] : List BkL) = nl at hl2 hb2
        refine .ent ((Picks.ent (a := [Gr 1 65 A4 (ln + 2) c4 (l.map bkV ++ ([⟨A, i, cp, m⟩, ⟨A2, j, c2, m⟩] : List BkL).map bkV)]) picks).trans (Ent.of (Y := Gr 1 65 (if c4 = 200 then A4 else adr A4 (200 * 1)) (ln + 2 - 200) (c4 - 200) ((nl.drop 200).map bkV)) fun r hr => by
          have := hr.dropTo (k := 200) (by omega)
          rw [← List.map_append, hnl, Nat.mul_one, ← List.map_drop] at this; exact this)) ?_
        refine .ent ((Picks.ent (a := [Gr 1 5 A5 (ln + 2) c5 (l.map bkM ++ ([⟨A, i, cp, m⟩, ⟨A2, j, c2, m⟩] : List BkL).map bkM)]) picks).trans (Ent.of (Y := Gr 1 5 (if c5 = 200 then A5 else adr A5 (200 * 1)) (ln + 2 - 200) (c5 - 200) ((nl.drop 200).map bkM)) fun r hr => by
          have := hr.dropTo (k := 200) (by omega)
          rw [← List.map_append, hnl, Nat.mul_one, ← List.map_drop] at this; exact this)) ?_
        refine .ent ((Picks.ent (a := [BkRd nl]) picks).trans (Ent.of (Y := BkRd (nl.drop 200)) fun r hr => hr.drop 200)) ?_
        generalize hA6 : (if c4 = 200 then A4 else adr A4 (200 * 1)) = A6
        generalize hA7 : (if c5 = 200 then A5 else adr A5 (200 * 1)) = A7
        refine .ent ((Picks.ent (a := [Blk true b (ncells pp c h s x A6 (ln + 2 - 200) (c4 - 200) A7 (ln + 2 - 200) (c5 - 200)) 97, Gr 1 65 A6 (ln + 2 - 200) (c4 - 200) ((nl.drop 200).map bkV), Gr 1 5 A7 (ln + 2 - 200) (c5 - 200) ((nl.drop 200).map bkM), BkRd (nl.drop 200)]) (by rw [← hA6, ← hA7]; exact picks)).trans (NBk.shut (by omega) (by rw [List.length_drop]; omega) fun y hy => hb2 y (List.mem_of_mem_drop hy))) ?_
        exact .doneD Tryz.func61
      · refine run ?_
        refine .ent ((Picks.ent (a := [Blk true b (ncells pp c h s x A4 (ln + 2) c4 A5 (ln + 2) c5) 97, Gr 1 65 A4 (ln + 2) c4 ((l ++ ([⟨A, i, cp, m⟩, ⟨A2, j, c2, m⟩] : List BkL)).map bkV), Gr 1 5 A5 (ln + 2) c5 ((l ++ ([⟨A, i, cp, m⟩, ⟨A2, j, c2, m⟩] : List BkL)).map bkM), BkRd (l ++ ([⟨A, i, cp, m⟩, ⟨A2, j, c2, m⟩] : List BkL))]) (by rw [List.map_append, List.map_append]; exact picks)).trans (NBk.shut (by omega) hl2 hb2)) ?_
        exact .doneD Tryz.func61
end
end Go.SL
namespace Go.SL
open Go.Proofs Go.Proofs.YtocogcgnahbpkaaGreat
open Rs (Nd)
set_option maxRecDepth 10000
theorem BkRd.at {l : List BkL} {y : BkL} (hy : y ∈ l) : Reads (BkRd l) y.A (List.replicate y.n (bc y.m)) := fun r h => h y hy
def Gd (x : LE) : HP := GrX 1 5 x.A x.e.data.length x.c
theorem Gs.gd : ∀ {l : List LE} {r : Res}, Gs l r → Sl Gd l r
  | [], _, _ => trivial
  | x :: l, r, ⟨r1, r2, a, b, c, d, s1, s2, a', b', c', d', t⟩ => ⟨r1, r2, a, b, c, d.x, s1, s2, a', b', c', Gs.gd d', t⟩
attribute [local irreducible] W RS RG RT RD Fn FnQ OpS QOp Own Sat Rd Gr Mp Rg Lg Ms Es Nod Rp NodI RLg RMs REs RN RLd RNF EsD MsD NBk BkP BkRd
section
variable {c : Cfg} {s : Nd} {h : RW} {x : RX} {b pp : Nat} {A : Option Addr} {n cp : Nat}
theorem holds_ok : Fn Tryz.prog 43 [.pointer (some ⟨b, 27, none⟩)].toArray [NBk b pp c h s x] (Det (.bool true) [NBk b pp c h s x]) := by
  refine Fn.enter Tryz.func43 rfl (by kernel_rfl) rfl ?_
  refine .nbk fun LA ln lc MA mc l hl hll hlb => ?_
  have hL : Reads (Gr 1 65 LA ln lc (l.map bkV)) LA (l.map bkV) := .gr
  have hM : Reads (Gr 1 5 MA ln mc (l.map bkM)) MA (l.map bkM) := .gr
  refine run ?_
  refine W.loopH (ι := Nat) (fun i => i ≤ ln) (fun i => [(0, .pointer (some ⟨b, 27, none⟩)), (3, nv i)])
    (fun i => [Blk true b (ncells pp c h s x LA ln lc MA ln mc) 97, Gr 1 65 LA ln lc (l.map bkV), Gr 1 5 MA ln mc (l.map bkM), BkRd l]) (fun i => ln - i) 0 (Nat.zero_le _) subs (.refl _) ?_
  intro i hi ih
  by_cases hil : i < ln
  · obtain ⟨y, hy⟩ : ∃ y, l[i]? = some y := ⟨_, List.getElem?_eq_getElem (by omega)⟩
    have hyn := hlb y (List.mem_of_getElem? hy)
    refine W.fact (fun w h => IsA.of (k := i) hL (by exact pick) (by simpa using (by omega : i < l.length)) h) fun hA => ?_
    refine W.fact (fun w h => IsA.of (k := i) hM (by exact pick) (by simpa using (by omega : i < l.length)) h) fun hB => ?_
    refine run ?_
    refine W.loopH (ι := Nat) (fun j => j ≤ y.n) (fun j => [(0, .pointer (some ⟨b, 27, none⟩)), (3, nv i), (4, nv j)])
      (fun j => [Blk true b (ncells pp c h s x LA ln lc MA ln mc) 97, Gr 1 65 LA ln lc (l.map bkV), Gr 1 5 MA ln mc (l.map bkM), BkRd l]) (fun j => y.n - j) 0 (Nat.zero_le _) subs (.refl _) ?_
    intro j hj ih2
    have hYV : (l.map bkV)[i * 1]? = some (bkV y) := by rw [Nat.mul_one]; simp [hy]
    by_cases hjl : j < y.n
    · refine W.fact (fun w h => IsA.of (k := j) (BkRd.at (List.mem_of_getElem? hy)) (by exact pick) (by simpa using hjl) h) fun hC => ?_
      refine run ?_
      refine .quiet rfl rfl rfl (R.load (v := bkV y) rfl rfl rfl rfl hL pick hYV) ?_
      refine run ?_
      refine W.plan [] mixed (by rfl) (by kernel_rfl) ?_
      refine run ?_
      refine RG.take rfl rfl rfl rfl (R.load (v := bkV y) rfl rfl rfl rfl hL pick hYV) ?_ rfl
      refine run ?_
      refine RG.take rfl rfl rfl rfl (R.load (v := bc y.m) rfl rfl rfl rfl (BkRd.at (List.mem_of_getElem? hy)) pick (by rw [Nat.mul_one]; simp [hjl])) ?_ rfl
      refine run ?_
      refine RG.take rfl rfl rfl rfl (R.load (v := bc y.m) rfl rfl rfl rfl hM pick (by rw [Nat.mul_one]; simp [hy, bkM])) ?_ rfl
      refine run ?_
      exact .back (ih2 (j + 1) (by omega) (by omega))
    · refine run ?_
      refine .quiet rfl rfl rfl (R.load (v := bkV y) rfl rfl rfl rfl hL pick hYV) ?_
      refine run ?_
      exact .back (ih (i + 1) (by omega) (by omega))
  · refine run ?_
    refine .ent (NBk.shut hl hll hlb) ?_
    exact .retD Tryz.func43
theorem takeLog_ok {i : Nat} {l : List Rf.Ent} (hl : l.length ≤ 1000000) (hd : ∀ e ∈ l, e.data.length ≤ 140737488351232) : Fn Tryz.prog 39 [.pointer (some ⟨b, 27, none⟩), .slice A l.length cp].toArray [NBk b pp c h s x, Lg A l.length cp i l] (Det (.tuple #[]) [NBk b pp c h s x]) := by
  refine Fn.enter Tryz.func39 rfl (by kernel_rfl) rfl ?_
  refine .first (Lg A l.length cp i l) ?_
  refine .lg fun les hles => ?_
  have hlen := les_len hles
  refine run ?_
  refine .ent ((Picks.ent (a := [Gs les]) picks).trans (Ent.of (Y := Sl Gd (les.drop 0)) fun r h => h.gd)) ?_
  refine .ent ((Picks.ent (a := [Gr 3 67 A l.length cp (les.flatMap encLE)]) picks).trans (Ent.of (Y := fun r => ∃ cs : List Value, cs.drop (0 * 3) = (les.drop 0).flatMap encLE ∧ Gr 3 67 A l.length cp cs r) fun r h => ⟨_, by simp, h⟩)) ?_
  refine W.loopH (ι := Nat) (fun k => k ≤ l.length) (fun k => [(0, .pointer (some ⟨b, 27, none⟩)), (1, .slice A l.length cp), (4, nv k)])
    (fun k => [fun r => ∃ cs : List Value, cs.drop (k * 3) = (les.drop k).flatMap encLE ∧ Gr 3 67 A l.length cp cs r, Sl Gd (les.drop k), NBk b pp c h s x]) (fun k => l.length - k) 0 (Nat.zero_le _) subs (.refl _) ?_
  intro k hk ih
  by_cases hlt : k < l.length
  · obtain ⟨y, hy⟩ : ∃ y, les[k]? = some y := ⟨_, List.getElem?_eq_getElem (by omega)⟩
    obtain ⟨en, hen, hye⟩ := les_at hles hy
    have hyd : y.e.data.length ≤ 140737488351232 := by rw [hye]; exact hd en (List.mem_of_getElem? hen)
    have hdr : les.drop k = y :: les.drop (k + 1) := by rw [List.drop_eq_getElem_cons (by omega)]; congr 1; exact (List.getElem?_eq_some_iff.1 hy).2
    refine .ex fun cs => .pur fun hcs => ?_
    refine W.fact (fun w h => Gr.len h) fun hcl => ?_
    rw [hdr] at hcs
    have hc2 : cs[k * 3 + 2]? = some (.slice y.A y.e.data.length y.c) := by
      rw [← List.getElem?_drop, hcs]; rfl
    refine W.fact (fun w h => IsA.of (k := k * 3) (Reads.gr (sz := 3) (E := 67)) .hd (by omega) h) fun hA => ?_
    refine run ?_
    refine .quiet rfl rfl rfl (R.load (v := .slice y.A y.e.data.length y.c) rfl rfl rfl rfl (Reads.gr (sz := 3) (E := 67) (cs := cs)) pick hc2) ?_
    rw [hdr]
    refine .ent ((Picks.ent (a := [Sl Gd (y :: les.drop (k + 1))]) picks).trans Sl.uncons) ?_
    refine .callD (take_ok (A := y.A) (n := y.e.data.length) (cp := y.c) (b := b) (pp := pp) (c := c) (h := h) (s := s) (x := x) hyd) ?_
    refine run ?_
    refine .det0 rfl rfl (O.storeRowE (j := k) rfl rfl rfl rfl rfl rfl (by decide) pick (by show k * 3 + 3 ≤ _; omega) rfl) ?_
    refine run ?_
    refine .ent (Ent.of (Y := fun r => ∃ cs : List Value, cs.drop ((k + 1) * 3) = (les.drop (k + 1)).flatMap encLE ∧ Gr 3 67 A l.length cp cs r) fun r h => ⟨_, ?_, h⟩) ?_
    · show (cs.take (k * 3) ++ _ ++ cs.drop (k * 3 + 3)).drop ((k + 1) * 3) = _
      rw [List.drop_append_of_le_length (by simp; omega), List.drop_eq_nil_of_le (by simp; omega), List.nil_append, ← List.drop_drop, hcs]; rfl
    · exact .back (ih (k + 1) (by omega) (by omega))
  · refine run ?_
    exact .doneD Tryz.func39
end
end Go.SL
