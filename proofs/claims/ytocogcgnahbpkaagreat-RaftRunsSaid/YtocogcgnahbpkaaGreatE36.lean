/-
  A part of the proof of what E53 says at its head.
-/
import Derived.Test.YtocogcgnahbpkaaGreatE35
namespace Go.SL
open Go.Proofs Go.Proofs.YtocogcgnahbpkaaGreat
open Rs (Nd)
set_option maxRecDepth 10000
def BothI (b : Nat) (c : Cfg) (s : Nd) : HP := fun r => ∃ pp h x, RwOk s h ∧ Stars [NBk b pp c h s x, NodI pp c s, RLdN h s, OthR c h s, GraR h s, RefR h s] r
def PRes (pp : Nat) (c : Cfg) (s' : Nd) (r : Rdy) (err : Int) (X D : HP) : Fin := fun v L => ∃ EA ec MA mc SA sc, v = .tuple #[.agg (rdV r EA ec MA mc SA sc).toArray, iv err] ∧
  L = [NodI pp c s', Lg EA r.es.length ec r.ei r.es, Ms MA r.ms.length mc r.ms, Gr 1 3 SA r.sn.length sc ((li r.sn).map iv), X, D]
def RRes (c : Cfg) (s' : Nd) (r : Rdy) (err : Int) (X D : HP) : Fin := fun v L => ∃ h' x' EA ec MA mc SA sc, RwOk s' h' ∧ v = .tuple #[.agg (rcells c h' s' x').toArray, .agg (rdV r EA ec MA mc SA sc).toArray, iv err] ∧
  L = [RLdN h' s', OthR c h' s', GraR h' s', RefR h' s', RLd EA r.ei r.es, MsD MA r.ms, Rd false SA ((li r.sn).map iv), X, D]
abbrev EV.at (e : EV) (A : Option Addr) (cp : Nat) (dA : Option Addr) (dn dc : Nat) : EV := { e with A := A, c := cp, dA := dA, dn := dn, dc := dc }
def EvGo (c : Cfg) (s : Nd) (e : EV) (data : List (List Int)) (s' : Nd) (r : Rdy) (err : Int) : Prop :=
  ∀ (A dA : Option Addr) (cp dc : Nat) (X D : HP) (mes : List LE) (lbs : List LB), Reads X A (mes.flatMap encLE) → Reads X dA (lbs.map vB) → DRead D mes → DReadB D lbs → mes.map (·.e) = ents e.m.idx e.m.es → lbs.map (·.data) = data → mes.length ≤ cp →
  (∀ pp, Fn Tryz.prog 32 [pt pp, .agg (encV (e.at A cp dA lbs.length dc)).toArray].toArray [NodI pp c s, X, D] (PRes pp c s' r err X D)) ∧
  (∀ h x, RwOk s h → Fn Tryz.prog 51 [.agg (rcells c h s x).toArray, .agg (encV (e.at A cp dA lbs.length dc)).toArray].toArray [RLdN h s, OthR c h s, GraR h s, RefR h s, X, D] (RRes c s' r err X D))
section
variable {P : Program} {n f : Nat} {e : Env} {L L' : List HP} {R : Fin} {k : List Item} {ds : List Deferred} {c : Cfg} {s : Nd} {b : Nat}
theorem W.bothI (H : ∀ pp h x, RwOk s h → W P f n R k e ds (NBk b pp c h s x :: NodI pp c s :: RLdN h s :: OthR c h s :: GraR h s :: RefR h s :: L)) : W P f n R k e ds (BothI b c s :: L) :=
  .ex fun pp => .ex fun h => .ex fun x => .pur fun hh => .ent (Ent.star (l := [_, _, _, _, _, _])) (H pp h x hh)
theorem BothI.shut {pp : Nat} {h : RW} {x : RX} (hh : RwOk s h) : Ent (NBk b pp c h s x :: NodI pp c s :: RLdN h s :: OthR c h s :: GraR h s :: RefR h s :: L) (BothI b c s :: L) :=
  (Ent.unstar (l := [_, _, _, _, _, _])).trans (.of fun r hr => ⟨pp, h, x, hh, hr⟩)
end
def LgM (y : LM) : HP := Lg y.A y.m.es.length y.c y.m.idx y.m.es
theorem Es.sl : ∀ {l : List LM} {r : Res}, Es l r → Sl LgM l r
  | [], _, _ => trivial
  | x :: l, r, ⟨r1, r2, a, b, c, d, s1, s2, a', b', c', d', t⟩ => ⟨r1, r2, a, b, c, d, s1, s2, a', b', c', Es.sl d', t⟩
theorem Reads.star2 {X Y : HP} {A : Option Addr} {cs : List Value} (h : Reads X A cs) : Reads (Stars [X, Y]) A cs := fun r ⟨r1, _, a, _, _, d, _⟩ => (h r1 d).le a
theorem Reads.star2' {X Y : HP} {A : Option Addr} {cs : List Value} (h : Reads Y A cs) : Reads (Stars [X, Y]) A cs := fun r ⟨_, r2, _, b, _, _, s1, _, a', _, _, d', _⟩ => ((h s1 d').le a').le b
attribute [local irreducible] W RS RG RT RD Fn FnQ OpS QOp Own Sat Rd Gr Mp Rg Lg Ms Es Nod Rp NodI RLg RMs REs RN RLd RNF EsD MsD NBk BkP BkRd BothI
structure WJ where
  k : Nat
  wbs : List LB
  DA : Option Addr
  dc : Nat
  WA : Option Addr
  wc : Nat
section
variable {c : Cfg} {s s' : Nd} {b : Nat} {e : EV} {data : List (List Int)} {r : Rdy} {err : Int} {X D : HP} {mes : List LE} {lbs : List LB}
theorem num_q {v : Int} : FnQ Tryz.prog 33 [iv v].toArray [] (iv v) := by
  refine Fn.quietD (M := []) ?_ (fun Q hQ => nomatch hQ)
  refine Fn.enter Tryz.func33 rfl (by kernel_rfl) rfl ?_
  refine run ?_
  exact .retD Tryz.func33
theorem nstep_n (hE : EvGo c s e data s' r err) (hr : r.Ok) (hX : Reads X e.A (mes.flatMap encLE)) (hX2 : Reads X e.dA (lbs.map vB)) (hD : DRead D mes) (hD2 : DReadB D lbs) (hmes : mes.map (·.e) = ents e.m.idx e.m.es) (hlbs : lbs.map (·.data) = data)
    (hn : e.dn = lbs.length) (hcp : mes.length ≤ e.c) (hml : mes.length ≤ 64) (hll : lbs.length * 24 ≤ 140737488351232) (hmd : ∀ x ∈ mes, x.e.data.length ≤ 140737488351232) (hld : ∀ x ∈ lbs, x.data.length ≤ 140737488351232)
    (hrm : ∀ m ∈ r.ms, ∀ x ∈ m.es, x.data.length ≤ 140737488351232) (hre : ∀ x ∈ r.es, x.data.length ≤ 140737488351232) :
    Fn Tryz.prog 31 [pt b, .agg (encV e).toArray].toArray [BothI b c s, X, D] (fun v L => ∃ EA ec MA mc SA sc, v = .tuple #[.agg (rdV r EA ec MA mc SA sc).toArray, iv err, .bool true] ∧
      L = [BothI b c s', RLd EA r.ei r.es, MsD MA r.ms, Rd false SA ((li r.sn).map iv), X, D]) := by
  have hmn := les_len hmes
  have hWL := wideLog_ok (cp := e.c) hX hD (by omega) hmd
  rw [hmn] at hWL
  refine Fn.enter Tryz.func31 rfl (by kernel_rfl) rfl ?_
  refine .first (BothI b c s) ?_
  refine .bothI fun pp h x hh => ?_
  refine .nbk fun LA ln lc MA mc bl hbl hbll hblb => ?_
  refine run ?_
  refine .box fun z3 => ?_
  refine .new fun z4 => ?_
  refine run ?_
  refine .new fun z7 => ?_
  refine run ?_
  refine .callE hWL ?_
  rintro v L ⟨ws, M, cM, WA, wc, hw, rfl, rfl⟩
  rw [hmn]
  refine run ?_
  refine .ent (Ent.mk (X := Gr 1 65 none 0 0 []) fun r => .nil) ?_
  refine W.loopH (ι := WJ) (fun i => i.k ≤ lbs.length ∧ i.wbs.map (·.data) = (lbs.take i.k).map (·.data)) (fun i => [(0, pt b), (3, pt z3), (4, pt z4), (7, pt z7), (8, .slice M e.m.es.length cM), (9, .slice i.WA (e.m.es.length + i.k) i.wc), (10, .slice i.DA i.k i.dc), (11, nv i.k)])
    (fun i => [Gr 1 65 i.WA (e.m.es.length + i.k) i.wc ((ws.map toB ++ i.wbs).map vW), Sl Wb (ws.map toB ++ i.wbs), Gr 1 65 i.DA i.k i.dc (i.wbs.map vB), Gr 3 67 M (e.m.es.length + 1) cM (ws.flatMap encLE ++ [iv (-77), iv 0, .slice none 0 0]),
      Blk true z7 (encV { e with A := M, c := cM }) 61, Blk true z3 (encV e) 61, Blk true z4 [iv 0, iv 0, .bool false, iv 0, .slice none 0 0, .slice none 0 0, iv 0, .slice none 0 0, iv 0, iv 0, iv 0, iv 0] 80, X, D,
      Blk true b (ncells pp c h s x LA ln lc MA ln mc) 97, Gr 1 65 LA ln lc (bl.map bkV), Gr 1 5 MA ln mc (bl.map bkM), BkRd bl, NodI pp c s, RLdN h s, OthR c h s, GraR h s, RefR h s]) (fun i => lbs.length - i.k) ⟨0, [], none, 0, WA, wc⟩ ⟨Nat.zero_le _, rfl⟩ subs (by simp only [List.append_nil, List.map_nil]; exact Picks.sub picks) ?_
  rintro ⟨k, wbs, DA, dc, WA2, wc2⟩ ⟨hk, hwb⟩ ih
  dsimp only at hk hwb ih ⊢
  have hwbl : wbs.length = k := by have := congrArg List.length hwb; simp only [List.length_map, List.length_take] at this; omega
  by_cases hlt : k < lbs.length
  · obtain ⟨y, hy⟩ : ∃ y, lbs[k]? = some y := ⟨_, List.getElem?_eq_getElem hlt⟩
    have hym := List.mem_of_getElem? hy
    refine W.fact (fun w h => IsA.of (k := k) hX2 (by exact pick) (by simpa using hlt) h) fun hA => ?_
    refine run ?_
    refine .quiet rfl rfl rfl (R.load (v := vB y) rfl rfl rfl rfl hX2 pick (by rw [Nat.mul_one]; simp [hy])) ?_
    refine .callE (wide_ok (X := D) (fun r hr => hD2 r hr y hym) (hld y hym)) ?_
    rintro v L ⟨A3, c3, rfl, rfl⟩
    refine run ?_
    refine .lit fun z => ?_
    refine run ?_
    refine .push (sz := 1) (m := 1) (Src.pick (cs := [vB ⟨y.data, A3, c3⟩]) rfl rfl .hd .own rfl rfl rfl) fun A4 c4 => ?_
    refine run ?_
    refine .lit fun z => ?_
    refine run ?_
    refine .push (sz := 1) (m := 1) (Src.pick (cs := [vW ⟨y.data, A3, c3⟩]) rfl rfl .hd .own rfl rfl rfl) fun A5 c5 => ?_
    refine run ?_
    have h2 := ih ⟨k + 1, wbs ++ [⟨y.data, A3, c3⟩], A4, c4, A5, c5⟩ ⟨by dsimp only; omega, by rw [List.take_add_one, hy]; simp [hwb]⟩ (by dsimp only; omega)
    have e1 : (ws.map toB ++ (wbs ++ [(⟨y.data, A3, c3⟩ : LB)])).map vW = (ws.map toB ++ wbs).map vW ++ [vW ⟨y.data, A3, c3⟩] := by simp
    have e2 : (wbs ++ [(⟨y.data, A3, c3⟩ : LB)]).map vB = wbs.map vB ++ [vB ⟨y.data, A3, c3⟩] := by simp
    have e3 : ws.map toB ++ (wbs ++ [⟨y.data, A3, c3⟩]) = (ws.map toB ++ wbs) ++ [⟨y.data, A3, c3⟩] := by simp
    dsimp only at h2
    rw [e1, e2, e3] at h2
    refine .ent ((Picks.ent (a := [Wb ⟨y.data, A3, c3⟩, Sl Wb (ws.map toB ++ wbs)]) picks).trans Sl.snoc) ?_
    exact .back h2
  · have hkl : k = lbs.length := by omega
    clear ih
    refine run ?_
    refine .lit fun za => ?_
    refine run ?_
    refine .lit fun zb => ?_
    refine .push (sz := 1) (m := 1) (Src.pick (cs := [.slice (some ⟨za, 0, none⟩) 1 1]) rfl rfl .hd .own rfl rfl rfl) fun DA2 dc2 => ?_
    refine run ?_
    refine .fact (fun w h => Gr.cap (h.ent (Picks.ent (a := [Gr 1 65 DA2 (k + 1) dc2 (wbs.map vB ++ [.slice (some ⟨za, 0, none⟩) 1 1])]) picks))) fun hcapD => ?_
    refine .fact (fun w h => Gr.cap (h.ent (Picks.ent (a := [Gr 3 67 M (e.m.es.length + 1) cM (ws.flatMap encLE ++ [iv (-77), iv 0, .slice none 0 0])]) picks))) fun hcapM => ?_
    refine .hit 65 rfl (by rw [hn, ← hkl] : _ = nv k) ?_
    refine .quiet rfl rfl rfl (Q.sliceTo (hi := k) rfl rfl rfl rfl rfl rfl (by omega)) ?_
    refine run ?_
    have hwn : ws.length = e.m.es.length := by have := congrArg List.length hw; simpa [hmn] using this
    obtain ⟨XP, hXP⟩ : ∃ XP, XP = Stars [Gr 3 67 M (e.m.es.length + 1) cM (ws.flatMap encLE ++ [iv (-77), iv 0, .slice none 0 0]), Gr 1 65 DA2 (k + 1) dc2 (wbs.map vB ++ [.slice (some ⟨za, 0, none⟩) 1 1])] := ⟨_, rfl⟩
    have hR1 : Reads XP M (ws.flatMap encLE ++ [iv (-77), iv 0, .slice none 0 0]) := by rw [hXP]; exact Reads.star2 .gr
    have hR2 : Reads XP DA2 (wbs.map vB ++ [.slice (some ⟨za, 0, none⟩) 1 1]) := by rw [hXP]; exact Reads.star2' .gr
    have hDP1 : DRead (Sl Wb (ws.map toB ++ wbs)) ws := fun r hr y hy => Sl.reads (y := toB y) (List.mem_append.2 (.inl (List.mem_map_of_mem hy))) Wb.reads r hr
    have hDP2 : DReadB (Sl Wb (ws.map toB ++ wbs)) wbs := fun r hr y hy => Sl.reads (y := y) (List.mem_append.2 (.inr hy)) Wb.reads r hr
    have hwd : wbs.map (·.data) = data := by rw [hwb, hkl, List.take_length, hlbs]
    have hPP := (hE M DA2 cM dc2 XP (Sl Wb (ws.map toB ++ wbs)) ws wbs hR1.front hR2.front hDP1 hDP2 (by rw [hw]; exact hmes) hwd (by omega)).1 pp
    have hQQ := (hE e.A e.dA e.c e.dc X D mes lbs hX hX2 hD hD2 hmes hlbs hcp).2 h x hh
    rw [hwbl] at hPP
    rw [← hn] at hQQ
    refine .ent ((Picks.ent (a := [Gr 3 67 M (e.m.es.length + 1) cM (ws.flatMap encLE ++ [iv (-77), iv 0, .slice none 0 0]), Gr 1 65 DA2 (k + 1) dc2 (wbs.map vB ++ [.slice (some ⟨za, 0, none⟩) 1 1])]) picks).trans ((Ent.unstar (l := [_, _])).trans (Ent.of (Y := XP) fun r hr => by rw [hXP]; exact hr))) ?_
    clear hE
    refine W.joinI (ι := Nat × Option Addr × Nat × Option Addr × Nat × Option Addr × Nat) (fun _ => True) (fun i => [(0, pt b), (3, pt z3), (4, pt z4), (8, .slice M e.m.es.length cM), (9, .slice WA2 (e.m.es.length + k) wc2), (10, .slice DA2 (k + 1) dc2), (14, pt i.1), (15, iv err)])
      (fun i => [Blk true i.1 (rdV r i.2.1 i.2.2.1 i.2.2.2.1 i.2.2.2.2.1 i.2.2.2.2.2.1 i.2.2.2.2.2.2) 80, NodI pp c s', Lg i.2.1 r.es.length i.2.2.1 r.ei r.es, Ms i.2.2.2.1 r.ms.length i.2.2.2.2.1 r.ms, Gr 1 3 i.2.2.2.2.2.1 r.sn.length i.2.2.2.2.2.2 ((li r.sn).map iv), XP, Sl Wb (ws.map toB ++ wbs),
        Gr 1 65 WA2 (e.m.es.length + k) wc2 ((ws.map toB ++ wbs).map vW), Own true za (.cells #[bc 77] 5 (0, 0)), Blk true z3 (encV e) 61, Blk true z4 [iv 0, iv 0, .bool false, iv 0, .slice none 0 0, .slice none 0 0, iv 0, .slice none 0 0, iv 0, iv 0, iv 0, iv 0] 80, X, D,
        Blk true b (ncells pp c h s x LA ln lc MA ln mc) 97, Gr 1 65 LA ln lc (bl.map bkV), Gr 1 5 MA ln mc (bl.map bkM), BkRd bl, RLdN h s, OthR c h s, GraR h s, RefR h s]) ?_ fun tail => ?_
    case' refine_2 =>
      refine W.plan [] mixed (by rfl) (by kernel_rfl) ?_
      refine run ?_
      refine .two ?h1 ?h2
      case' h1 =>
        refine .callE hPP ?_
        rintro v L ⟨EA, ec, NA, nc, SA, sc, rfl, rfl⟩
        refine runR ?_
        refine .new fun z14 => ?_
      case' h2 =>
        refine .new fun z14 => ?_
        refine .callE hPP ?_
        rintro v L ⟨EA, ec, NA, nc, SA, sc, rfl, rfl⟩
      all_goals
        refine runR ?_
        exact .back (tail (z14, EA, ec, NA, nc, SA, sc) trivial)
    rintro ⟨z14, EA, ec, NA, nc, SA, sc⟩ _
    dsimp only
    refine .seq ?_
    refine W.joinI (ι := (RW × RX) × (Nat × Nat) × Option Addr × Nat × Option Addr × Nat × Option Addr × Nat) (fun i => RwOk s' i.1.1) (fun i => [(0, pt b), (3, pt z3), (4, pt z4), (8, .slice M e.m.es.length cM), (9, .slice WA2 (e.m.es.length + k) wc2), (10, .slice DA2 (k + 1) dc2), (14, pt z14), (15, iv err), (16, pt i.2.1.1), (17, pt i.2.1.2), (18, iv err)])
      (fun i => [Blk true i.2.1.1 (rcells c i.1.1 s' i.1.2) 93, Blk true i.2.1.2 (rdV r i.2.2.1 i.2.2.2.1 i.2.2.2.2.1 i.2.2.2.2.2.1 i.2.2.2.2.2.2.1 i.2.2.2.2.2.2.2) 80, RLdN i.1.1 s', OthR c i.1.1 s', GraR i.1.1 s', RefR i.1.1 s', RLd i.2.2.1 r.ei r.es, MsD i.2.2.2.2.1 r.ms, Rd false i.2.2.2.2.2.2.1 ((li r.sn).map iv),
        Blk true z14 (rdV r EA ec NA nc SA sc) 80, NodI pp c s', Lg EA r.es.length ec r.ei r.es, Ms NA r.ms.length nc r.ms, Gr 1 3 SA r.sn.length sc ((li r.sn).map iv), XP, Sl Wb (ws.map toB ++ wbs),
        Gr 1 65 WA2 (e.m.es.length + k) wc2 ((ws.map toB ++ wbs).map vW), Own true za (.cells #[bc 77] 5 (0, 0)), Blk true z3 (encV e) 61, Blk true z4 [iv 0, iv 0, .bool false, iv 0, .slice none 0 0, .slice none 0 0, iv 0, .slice none 0 0, iv 0, iv 0, iv 0, iv 0] 80, X, D,
        Blk true b (ncells pp c h s x LA ln lc MA ln mc) 97, Gr 1 65 LA ln lc (bl.map bkV), Gr 1 5 MA ln mc (bl.map bkM), BkRd bl]) ?_ fun tail => ?_
    case' refine_2 =>
      refine W.plan [] mixed (by rfl) (by kernel_rfl) ?_
      refine run ?_
      refine RG.take rfl rfl rfl rfl (Q.loadP rfl rfl rfl rfl pick rfl) ?_ rfl
      refine run ?_
      refine .three ?g1 ?g2 ?g3
      case' g1 =>
        refine .callE hQQ ?_
        rintro v L ⟨h', x', EB, ed, NB, nd, SB, sd, hh', rfl, rfl⟩
        refine runR ?_
        refine .two ?a1 ?b1
        case' a1 =>
          refine .new fun z16 => ?_
          refine .new fun z17 => ?_
        case' b1 =>
          refine .new fun z17 => ?_
          refine .new fun z16 => ?_
      case' g2 =>
        refine .new fun z16 => ?_
        refine .two ?a2 ?b2
        case' a2 =>
          refine .callE hQQ ?_
          rintro v L ⟨h', x', EB, ed, NB, nd, SB, sd, hh', rfl, rfl⟩
          refine runR ?_
          refine .new fun z17 => ?_
        case' b2 =>
          refine .new fun z17 => ?_
          refine .callE hQQ ?_
          rintro v L ⟨h', x', EB, ed, NB, nd, SB, sd, hh', rfl, rfl⟩
      case' g3 =>
        refine .new fun z17 => ?_
        refine .two ?a3 ?b3
        case' a3 =>
          refine .callE hQQ ?_
          rintro v L ⟨h', x', EB, ed, NB, nd, SB, sd, hh', rfl, rfl⟩
          refine runR ?_
          refine .new fun z16 => ?_
        case' b3 =>
          refine .new fun z16 => ?_
          refine .callE hQQ ?_
          rintro v L ⟨h', x', EB, ed, NB, nd, SB, sd, hh', rfl, rfl⟩
      all_goals
        refine runR ?_
        exact .back (tail ((h', x'), (z16, z17), EB, ed, NB, nd, SB, sd) hh')
    clear hPP hQQ
    rintro ⟨⟨h', x'⟩, ⟨z16, z17⟩, EB, ed, NB, nd, SB, sd⟩ hh'
    dsimp only at hh' ⊢
    refine run ?_
    refine .ent ((Picks.ent (a := [Blk true b (ncells pp c h' s' x' LA ln lc MA ln mc) 97, Gr 1 65 LA ln lc (bl.map bkV), Gr 1 5 MA ln mc (bl.map bkM), BkRd bl]) picks).trans (NBk.shut hbl hbll hblb)) ?_
    have hSL := sameLog_t (X := XP) (D := Sl Wb (ws.map toB ++ wbs)) (Y := X) (E := D) (A := M) (B := e.A) (c := cM) (c' := e.c) (l := ws) (l' := mes) hR1.front hDP1 hX hD (by omega) hw
    rw [hwn, hmn] at hSL
    refine .callQ hSL ?_
    clear hSL
    refine .fact (fun w h => IsA.of (k := e.m.es.length * 3) hR1 (by exact pick) (by rw [List.length_append, flat_len lenLE, hwn]; simp) h) fun hAM => ?_
    refine .fact (fun w h => IsA.of (k := k) hR2 (by exact pick) (by simp [hwbl]) h) fun hAD => ?_
    refine run ?_
    refine .hit 100 rfl (rfl : _ = nv (e.m.es.length + 1)) ?_
    refine .quiet rfl rfl rfl (Q.sliceTo (hi := e.m.es.length + 1) rfl rfl rfl rfl rfl rfl (by omega)) ?_
    refine run ?_
    refine .quiet rfl rfl rfl (R.load (v := iv (-77)) rfl rfl rfl rfl hR1 pick (by
      show (ws.flatMap encLE ++ _)[e.m.es.length * 3 + 0]? = _
      rw [List.getElem?_append_right (by rw [flat_len lenLE, hwn]; omega), flat_len lenLE, hwn, Nat.add_zero, Nat.sub_self]; rfl)) ?_
    refine run ?_
    refine .quiet rfl rfl rfl (R.load (v := .slice (some ⟨za, 0, none⟩) 1 1) rfl rfl rfl rfl hR2 pick (by
      show (wbs.map vB ++ _)[e.dn * 1]? = _
      rw [Nat.mul_one, List.getElem?_append_right (by rw [List.length_map, hwbl]; omega), List.length_map, hwbl, show e.dn - k = 0 by omega]; rfl)) ?_
    refine run ?_
    refine .weak (e' := [(0, pt b), (3, pt z3), (4, pt z4), (8, .slice M e.m.es.length cM), (9, .slice WA2 (e.m.es.length + k) wc2), (14, pt z14), (15, iv err), (17, pt z17), (18, iv err), (19, .bool true)])
      (L' := [NBk b pp c h' s' x', Blk true z17 (rdV r EB ed NB nd SB sd) 80, RLdN h' s', OthR c h' s', GraR h' s', RefR h' s', RLd EB r.ei r.es, MsD NB r.ms, Rd false SB ((li r.sn).map iv), Blk true z14 (rdV r EA ec NA nc SA sc) 80, NodI pp c s', Lg EA r.es.length ec r.ei r.es, Ms NA r.ms.length nc r.ms, Gr 1 3 SA r.sn.length sc ((li r.sn).map iv),
        XP, Sl Wb (ws.map toB ++ wbs), Gr 1 65 WA2 (e.m.es.length + k) wc2 ((ws.map toB ++ wbs).map vW), Blk true z3 (encV e) 61, Blk true z4 [iv 0, iv 0, .bool false, iv 0, .slice none 0 0, .slice none 0 0, iv 0, .slice none 0 0, iv 0, iv 0, iv 0, iv 0] 80, X, D]) subs (Picks.sub picks) ?_
    have hDt := datas_ok (cp := e.c) hX (by omega : mes.length ≤ 1000000)
    rw [hmn] at hDt
    have hDu : DReadB D (mes.map toB ++ lbs) := fun r hr y hy => by
      rcases List.mem_append.1 hy with hy | hy
      · obtain ⟨u, hu, rfl⟩ := List.mem_map.1 hy
        exact hD r hr u hu
      · exact hD2 r hr y hy
    refine W.planT [Blk true z3 (encV e) 61] [2006] mixed (by rfl) (by kernel_rfl) ?_ picks
    refine run ?_
    refine .callE hDt ?_
    rintro v L ⟨UA, uc, rfl, rfl⟩
    refine run ?_
    refine .push (sz := 1) (m := e.dn) (Src.pick (cs := lbs.map vB) rfl rfl .hd hX2 (by simp [hn]) rfl (by simp [vB, isOne])) fun UA2 uc2 => ?_
    have hOv := over_ok (X := Gr 1 65 UA2 (e.m.es.length + e.dn) uc2 ((mes.map toB).map vB ++ lbs.map vB)) (D := D) (wl := ws.map toB ++ wbs) (ul := mes.map toB ++ lbs) (WA := WA2) (UA := UA2) (wc := wc2) (uc := uc2)
      (by simp only [List.map_append, List.map_map]; rw [hwd, hlbs, show (fun x : LB => x.data) ∘ toB = (fun x : EM => x.data) ∘ (fun x : LE => x.e) from rfl, ← List.map_map, hw, List.map_map])
      (by rw [List.map_append]; exact .gr) hDu (by simp only [List.length_append, List.length_map]; omega) (fun y hy => by
        rcases List.mem_append.1 hy with hy | hy
        · obtain ⟨u, hu, rfl⟩ := List.mem_map.1 hy
          have : u.e ∈ mes.map (·.e) := by rw [← hw]; exact List.mem_map_of_mem hu
          obtain ⟨v, hv, hvu⟩ := List.mem_map.1 this
          show u.e.data.length ≤ _; rw [← hvu]; exact hmd v hv
        · have : y.data ∈ lbs.map (·.data) := by rw [hlbs, ← hwd]; exact List.mem_map_of_mem hy
          obtain ⟨v, hv, hvu⟩ := List.mem_map.1 this
          rw [← hvu]; exact hld v hv)
    simp only [List.length_append, List.length_map, hwn, hmn, hwbl, ← hn] at hOv
    refine runR ?_
    refine .callD hOv ?_
    refine run ?_
    clear hOv hDt
    subst hXP
    refine .ent ((Picks.ent (a := [Stars [Gr 3 67 M (e.m.es.length + 1) cM (ws.flatMap encLE ++ [iv (-77), iv 0, .slice none 0 0]), Gr 1 65 DA2 (k + 1) dc2 (wbs.map vB ++ [.slice (some ⟨za, 0, none⟩) 1 1])]]) picks).trans (Ent.star.trans (Ent.of (Y := GrX 3 67 M (e.m.es.length + 1) cM) fun r h => h.x))) ?_
    refine W.loopH (ι := Nat) (fun i => i ≤ e.m.es.length) (fun i => [(0, pt b), (4, pt z4), (8, .slice M e.m.es.length cM), (14, pt z14), (15, iv err), (17, pt z17), (18, iv err), (19, .bool true), (20, nv i)])
      (fun i => [GrX 3 67 M (e.m.es.length + 1) cM, NBk b pp c h' s' x', Blk true z17 (rdV r EB ed NB nd SB sd) 80, RLdN h' s', OthR c h' s', GraR h' s', RefR h' s', RLd EB r.ei r.es, MsD NB r.ms, Rd false SB ((li r.sn).map iv), Blk true z14 (rdV r EA ec NA nc SA sc) 80, NodI pp c s', Lg EA r.es.length ec r.ei r.es, Ms NA r.ms.length nc r.ms, Gr 1 3 SA r.sn.length sc ((li r.sn).map iv),
        Blk true z4 [iv 0, iv 0, .bool false, iv 0, .slice none 0 0, .slice none 0 0, iv 0, .slice none 0 0, iv 0, iv 0, iv 0, iv 0] 80, X, D]) (fun i => e.m.es.length - i) 0 (Nat.zero_le _) subs (Picks.sub picks) ?_
    intro i hi ih
    by_cases hil : i < e.m.es.length
    · unfold GrX
      refine .ex fun cs => ?_
      refine W.fact (fun w h => Gr.len h) fun hcl => ?_
      refine run ?_
      refine .det0 rfl rfl (O.storeRowE (j := i) rfl rfl rfl rfl rfl rfl (by decide) pick (by show i * 3 + 3 ≤ _; omega) rfl) ?_
      refine run ?_
      refine .ent (Ent.of (Y := GrX 3 67 M (e.m.es.length + 1) cM) fun r h => h.x) ?_
      exact .back (ih (i + 1) (by omega) (by omega))
    · clear ih
      refine run ?_
      refine .callQ (num_q (v := err)) ?_
      refine run ?_
      have hSR := (sameReady_d (EA := EA) (EB := EB) (MA := NA) (MB := NB) (SA := SA) (SB := SB) (ec := ec) (ed := ed) (mc := nc) (md := nd) (sc := sc) (sd := sd) hr).pre
        (M := [Ms NA r.ms.length nc r.ms, MsD NB r.ms, Lg EA r.es.length ec r.ei r.es, RLd EB r.ei r.es, Gr 1 3 SA r.sn.length sc ((li r.sn).map iv), Rd false SB ((li r.sn).map iv)])
        ((Ent.of fun _ h => h.lend).trans (.cons _ (.cons _ ((Ent.of fun _ h => h.lend).trans (.cons _ (.cons _ ((Ent.of Reads.gr).trans (.refl _))))))))
      refine .callQ hSR ?_
      refine run ?_
      have hms := hr.ms
      have hsn := hr.sn
      refine .first (Ms NA r.ms.length nc r.ms) ?_
      refine .ms fun ys hys => ?_
      have hyl : ys.length = r.ms.length := by rw [← hys, List.length_map]
      refine .ent ((Picks.ent (a := [Es ys]) picks).trans (Ent.of (Y := Sl LgM (ys.drop 0)) fun r h => h.sl)) ?_
      refine .ent ((Picks.ent (a := [Gr 10 59 NA r.ms.length nc (ys.flatMap encL)]) picks).trans (Ent.of (Y := fun w => ∃ cs : List Value, cs.drop (0 * 10) = (ys.drop 0).flatMap encL ∧ Gr 10 59 NA r.ms.length nc cs w) fun r h => ⟨_, by simp, h⟩)) ?_
      refine W.loopH (ι := Nat) (fun j => j ≤ r.ms.length) (fun j => [(0, pt b), (4, pt z4), (14, pt z14), (17, pt z17), (18, iv err), (19, .bool true), (21, nv j)])
        (fun j => [fun w => ∃ cs : List Value, cs.drop (j * 10) = (ys.drop j).flatMap encL ∧ Gr 10 59 NA r.ms.length nc cs w, Sl LgM (ys.drop j), NBk b pp c h' s' x', Blk true z17 (rdV r EB ed NB nd SB sd) 80, RLdN h' s', OthR c h' s', GraR h' s', RefR h' s', RLd EB r.ei r.es, MsD NB r.ms, Rd false SB ((li r.sn).map iv), Blk true z14 (rdV r EA ec NA nc SA sc) 80, NodI pp c s', Lg EA r.es.length ec r.ei r.es, Gr 1 3 SA r.sn.length sc ((li r.sn).map iv),
          Blk true z4 [iv 0, iv 0, .bool false, iv 0, .slice none 0 0, .slice none 0 0, iv 0, .slice none 0 0, iv 0, iv 0, iv 0, iv 0] 80, X, D]) (fun j => r.ms.length - j) 0 (Nat.zero_le _) subs (Picks.sub picks) ?_
      intro j hj ih
      by_cases hjl : j < r.ms.length
      · obtain ⟨y, hy⟩ : ∃ y, ys[j]? = some y := ⟨_, List.getElem?_eq_getElem (by omega)⟩
        have hym : y.m ∈ r.ms := by rw [← hys]; exact List.mem_map_of_mem (List.mem_of_getElem? hy)
        have hdr : ys.drop j = y :: ys.drop (j + 1) := by rw [List.drop_eq_getElem_cons (by omega)]; congr 1; exact (List.getElem?_eq_some_iff.1 hy).2
        refine .ex fun cs => .pur fun hcs => ?_
        refine W.fact (fun w h => Gr.len h) fun hcl => ?_
        rw [hdr] at hcs
        have hc2 : cs[j * 10 + 7]? = some (.slice y.A y.m.es.length y.c) := by
          rw [← List.getElem?_drop, hcs]; rfl
        refine W.fact (fun w h => IsA.of (k := j * 10) (Reads.gr (sz := 10) (E := 59)) .hd (by omega) h) fun hA => ?_
        refine run ?_
        refine W.plan [] mixed (by rfl) (by kernel_rfl) ?_
        refine run ?_
        refine RG.take rfl rfl rfl rfl (R.load (v := .slice y.A y.m.es.length y.c) rfl rfl rfl rfl (Reads.gr (sz := 10) (E := 59) (cs := cs)) pick hc2) ?_ rfl
        rw [hdr]
        refine .ent ((Picks.ent (a := [Sl LgM (y :: ys.drop (j + 1))]) picks).trans Sl.uncons) ?_
        unfold LgM
        refine .callD (takeLog_ok (A := y.A) (cp := y.c) (b := b) (pp := pp) (c := c) (h := h') (s := s') (x := x') (i := y.m.idx) (l := y.m.es) (hr.me y.m hym) (hrm y.m hym)) ?_
        refine run ?_
        refine .det0 rfl rfl (O.storeRowE (j := j) rfl rfl rfl rfl rfl rfl (by decide) pick (by show j * 10 + 10 ≤ _; omega) rfl) ?_
        refine run ?_
        refine .ent (Ent.of (Y := fun w => ∃ cs : List Value, cs.drop ((j + 1) * 10) = (ys.drop (j + 1)).flatMap encL ∧ Gr 10 59 NA r.ms.length nc cs w) fun r h => ⟨_, ?_, h⟩) ?_
        · show (cs.take (j * 10) ++ _ ++ cs.drop (j * 10 + 10)).drop ((j + 1) * 10) = _
          rw [List.drop_append_of_le_length (by simp; omega), List.drop_eq_nil_of_le (by simp; omega), List.nil_append, ← List.drop_drop, hcs]; rfl
        · unfold LgM at ih
          exact .back (ih (j + 1) (by omega) (by omega))
      · clear ih
        refine run ?_
        refine W.plan [] mixed (by rfl) (by kernel_rfl) ?_
        refine run ?_
        refine .callD (takeLog_ok (A := EA) (cp := ec) (b := b) (pp := pp) (c := c) (h := h') (s := s') (x := x') (i := r.ei) (l := r.es) hr.es hre) ?_
        refine run ?_
        refine .ent ((Picks.ent (a := [Gr 1 3 SA r.sn.length sc ((li r.sn).map iv)]) picks).trans (Ent.of (Y := GrX 1 3 SA r.sn.length sc) fun r h => h.x)) ?_
        refine W.loopH (ι := Nat) (fun j => j ≤ r.sn.length) (fun j => [(0, pt b), (4, pt z4), (14, pt z14), (17, pt z17), (18, iv err), (19, .bool true), (22, nv j)])
          (fun j => [GrX 1 3 SA r.sn.length sc, NBk b pp c h' s' x', Blk true z17 (rdV r EB ed NB nd SB sd) 80, RLdN h' s', OthR c h' s', GraR h' s', RefR h' s', RLd EB r.ei r.es, MsD NB r.ms, Rd false SB ((li r.sn).map iv), Blk true z14 (rdV r EA ec NA nc SA sc) 80, NodI pp c s',
            Blk true z4 [iv 0, iv 0, .bool false, iv 0, .slice none 0 0, .slice none 0 0, iv 0, .slice none 0 0, iv 0, iv 0, iv 0, iv 0] 80, X, D]) (fun j => r.sn.length - j) 0 (Nat.zero_le _) subs (Picks.sub picks) ?_
        intro j hj ih
        by_cases hjl : j < r.sn.length
        · unfold GrX
          refine .ex fun cs => ?_
          refine W.fact (fun w h => Gr.len h) fun hcl => ?_
          refine W.fact (fun w h => IsA.of (k := j) (Reads.gr (sz := 1) (E := 3)) .hd (by omega) h) fun hA => ?_
          refine run ?_
          refine .det0 rfl rfl (O.storeRow rfl rfl rfl rfl rfl rfl pick (by rw [hcl]; exact Nat.mul_lt_mul_of_pos_right hjl (by decide))) ?_
          refine run ?_
          refine .ent (Ent.of (Y := GrX 1 3 SA r.sn.length sc) fun r h => h.x) ?_
          exact .back (ih (j + 1) (by omega) (by omega))
        · clear ih
          refine run ?_
          refine W.planT [Blk true z17 (rdV r EB ed NB nd SB sd) 80] [2000] mixed (by rfl) (by kernel_rfl) ?_ picks
          refine run ?_
          refine .callD (holds_ok (b := b) (pp := pp) (c := c) (h := h') (s := s') (x := x')) ?_
          refine run ?_
          refine .ent ((Picks.ent (a := [NBk b pp c h' s' x', NodI pp c s', RLdN h' s', OthR c h' s', GraR h' s', RefR h' s']) picks).trans (BothI.shut hh')) ?_
          exact .retE Tryz.func31 ⟨EB, ed, NB, nd, SB, sd, rfl, rfl⟩ (.r3 .agg (.tmp rfl) (.tmp rfl))
end
end Go.SL
