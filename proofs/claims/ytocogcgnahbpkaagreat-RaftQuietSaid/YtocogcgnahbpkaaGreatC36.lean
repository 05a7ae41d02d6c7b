import Derived.Test.YtocogcgnahbpkaaGreatC12
import Derived.Test.YtocogcgnahbpkaaGreatC35
namespace Go.Proofs.YtocogcgnahbpkaaGreat
open Go.RowKit
def capd {α:Type} (calm:Bool) (l:List α):List α:=if calm then l else l.drop (l.length-200)
theorem setS_id {sg:Nat→SG} {j:Nat} {x:SG} (h:sg j=x):setS sg j x=sg:=by
 funext k;unfold setS;split
 ·rename_i e;rw [e,h]
 ·rfl
structure DoneV (w w':World) (S S':Nat→Prop) (bw:Nat) (bs:List Nat) (g g':VG) (sg:Nat→SG) (net net':List (MR×List (LE×List Int))) (i:Nat) (x x':SG) (lg:List E) (t v:Int) (c1:Nat) (ro le:Int) (mqs:List (MR×List (LE×List Int))) (KO:Nat→E→Int→Prop) (VO:Int×Int→Int→Prop) (LO:Int→Int→Prop) (h h':Nat):Prop where
 at_:VAt w' S' bw bs g' (setS sg (i+1) x') net'
 chg:Chg (g.mut bw bs) w w'
 sub:∀ j,S j→S' j
 sub':∀ j,S' j→S j∨w.heap.size≤j
 mu:∀ j,g'.mut bw bs j→g.mut bw bs j∨w.heap.size≤j
 seat:x'.id=x.id∧x'.bn=x.bn∧x'.t=t∧x'.v=v∧x'.cm=c1∧x'.ro=ro∧x'.le=le∧x'.dl.map con=lg
 same:g'.n=g.n∧g'.L=g.L∧g'.Mo=g.Mo∧g'.Bt=g.Bt∧g'.Ba=g.Ba∧g'.calm=g.calm∧g'.sA=g.sA∧g'.sc=g.sc
 net:net'.map pmOf=capd g.calm (net.map pmOf++mqs.map pmOf)
 inv:TInv KO VO LO g' h'
 hh:h≤h'∧c1≤h'
theorem RowS.at_ {α:Type} {enc:α→List Value} {sz k:Nat} {w:World} {S:Nat→Prop} {A:Option Addr} {xs:List α} {x:α} (h:RowS enc sz w S A xs) (hk:xs[k]?=some x):∃ b o,A=some ⟨b,o,none⟩∧S b∧∀ j v,(enc x)[j]?=some v→w.cell? ⟨b,o+k*sz+j,none⟩=some v:=by
 rcases h with rfl | ⟨b,o,e,hb,hc⟩
 ·simp at hk
 ·exact ⟨b,o,e,hb,hc k x hk⟩
def netLen (bw:Nat) (w:World):Nat:=match w.cell? ⟨bw,7,none⟩ with | some (.slice _ n _)=>n | _=>0
theorem take_succ_map {α β:Type} {l:List α} {r:Nat} {q:α} (f:α→β) (h:l[r]?=some q):(l.take (r+1)).map f=(l.take r).map f++[f q]:=by
 rw [List.take_add_one,h];simp
theorem Below.setCell' {w w':World} {B y o:Nat} (h:Below B w w') (hy:B≤y) (u:Value):Below B w (w'.setCell ⟨y,o,none⟩ u) :=
 ⟨h.os,h.tape,h.output,by simp only [World.setCell,Array.size_modify];exact h.size,fun i hi=>(Below.heap_setCell _ _ _ _ (fun e=>by simp only at e;omega)).trans (h.block i hi)⟩
set_option maxRecDepth 100000 in
set_option maxHeartbeats 20000000 in
theorem done_any (bw b i h:Nat) (bs:List Nat) (g:VG) (sg:Nat→SG) (net:List (MR×List (LE×List Int))) (S SE:Nat→Prop) (x:SG) (KO:Nat→E→Int→Prop) (VO:Int×Int→Int→Prop) (LO:Int→Int→Prop) (kind draw:Int) (m0 m1 m2 m3 m4 m5 m6 m7 m8 m9 k12 k13 k14 k15:Value) (id t v ro le fi la:Int) (k c0 c1:Nat) (wrt:Bool) (eA mA sA:Option Addr) (en ec mn mc sn sc:Nat) (qs:List (LE×List Int)) (mqs:List (MR×List (LE×List Int))) (lg:List E) (w:World)
  (ha:VAt w S bw bs g sg net) (hbi:bs[i]?=some b) (hx:sg (i+1)=x) (hid:x.id=id) (hoid:okI id) (hk:TInv KO VO LO g h) (hkind:kind=1∨kind=2∨kind=3∨kind=7)
  (hAB:(t=x.t∧v=x.v)∨(t=x.t∧x.v=0∧wrt=true)∨(x.t<t∧wrt=true)) (hSE:∀ j,SE j→j<w.heap.size∧¬ g.mut bw bs j)
  (hes:EntsS w SE eA qs) (hen:en=qs.length) (_:en≤ec) (hms:MsgsS w SE mA mqs) (hmn:mn=mqs.length) (_:mn≤mc) (hkl:k≤x.dl.length) (hql:x.dl.length≤90000∧qs.length≤90000) (hnl:net.length+mqs.length≤1000000000) (hmq:∀ m∈mqs,m.2.length≤100000)
  (hlg:lg=if wrt=true then (x.dl.map con).take k++qs.map con else x.dl.map con)
  (hv:v≠0→VO (id,t) v∧∀ y,VO (id,t) y→y=v) (hl:ro=4→le=id∧LO t id∧∀ y,LO t y→y=id) (hcp:ro=4→x.ro≠4→∀ j e τ,KO j e τ→τ<t→lg[j]?=some e)
  (hcm:x.cm=c0) (hcc:c0≤c1) (hch:c0≤h) (hc1:c1≤lg.length) (hll:lg.length≤100000) (hk1:∀ j,j<c1→∀ e τ,KO j e τ→lg[j]?=some e) (hk2:∀ j e,j<c1→lg[j]?=some e→KO j e t) (hti:okI t) :
  Calls Tryz.prog 34 #[.pointer (some ⟨bw,0,none⟩),.pointer (some ⟨b,0,none⟩),.agg #[.int .i64 kind,.int .i64 draw,m0,m1,m2,m3,m4,m5,m6,m7,m8,m9,k12,k13,k14,k15],.agg #[.int .i64 t,.int .i64 v,.bool wrt,.int .i64 ((k:Int)+1),.slice eA en ec,.slice mA mn mc,.int .i64 (c1:Int),.slice sA sn sc,.int .i64 ro,.int .i64 le,.int .i64 fi,.int .i64 la]] w
   fun e w'=>e=.returned (.bool true)∧∃ S' g' h' x' net',DoneV w w' S S' bw bs g g' sg net net' i x x' lg t v c1 ro le mqs KO VO LO h h':=by
 have HAB:=ld hAB
 have HHA:=ld ha
 have HV:=ld hv
 have HL:=ld hl
 have HCP:=ld hcp
 have HK1:=ld hk1
 have HK2:=ld hk2
 have HK:=ld hk
 have HES:=ld hes
 have HMS:=ld hms
 have HSE:=ld hSE
 have HLG:=ld hlg
 have HXI:=ld (And.intro hbi (And.intro hx hid))
 have HN:=ld (And.intro hen hmn)
 have HCM:=ld hcm
 have HQL:=ld hmq
 have HLL:=ld hll
 have hk4:(kind==4)=false:=by rcases hkind with rfl | rfl | rfl | rfl <;> rfl
 have hk5:(kind==5)=false:=by rcases hkind with rfl | rfl | rfl | rfl <;> rfl
 have hsa:SAt w S b x:=hx▸(ha.seat i b hbi).1
 have hlb:=block_lt hsa.blk
 have hlw:=block_lt ha.wb
 have d3:=vs3 hsa.blk
 have d4:=vs4 hsa.blk
 clear hll hmq hv hl hcp hk1 hk2 hk hes hms hSE hlg hbi hx hid hsa ha hen hmn hcm hkind hAB
 go_enter Tryz.func34,Tryz.ntmps34
 go_upto_region 2 with (fail)
 have hb0:Below w.heap.size w (((w.alloc (.cells #[.int .i64 kind,.int .i64 draw,m0,m1,m2,m3,m4,m5,m6,m7,m8,m9,k12,k13,k14,k15] 61)).alloc (.cells #[.int .i64 t,.int .i64 v,.bool wrt,.int .i64 ((k:Int)+1),.slice eA en ec,.slice mA mn mc,.int .i64 (c1:Int),.slice sA sn sc,.int .i64 ro,.int .i64 le,.int .i64 fi,.int .i64 la] 80)).alloc (.cells #[.int .i64 x.t,.int .i64 x.v] 45)):=((below_alloc1 w _).alloc (le_alloc (Nat.le_refl _) _) _).alloc (le_alloc (le_alloc (Nat.le_refl _) _) _) _
 have hE0:(((w.alloc (.cells #[.int .i64 kind,.int .i64 draw,m0,m1,m2,m3,m4,m5,m6,m7,m8,m9,k12,k13,k14,k15] 61)).alloc (.cells #[.int .i64 t,.int .i64 v,.bool wrt,.int .i64 ((k:Int)+1),.slice eA en ec,.slice mA mn mc,.int .i64 (c1:Int),.slice sA sn sc,.int .i64 ro,.int .i64 le,.int .i64 fi,.int .i64 la] 80)).alloc (.cells #[.int .i64 x.t,.int .i64 x.v] 45)).heap[w.heap.size]?=some (.cells #[.int .i64 kind,.int .i64 draw,m0,m1,m2,m3,m4,m5,m6,m7,m8,m9,k12,k13,k14,k15] 61 (0,0)):=block_alloc (block_alloc (World.alloc_at w _) _) _
 have hR0:(((w.alloc (.cells #[.int .i64 kind,.int .i64 draw,m0,m1,m2,m3,m4,m5,m6,m7,m8,m9,k12,k13,k14,k15] 61)).alloc (.cells #[.int .i64 t,.int .i64 v,.bool wrt,.int .i64 ((k:Int)+1),.slice eA en ec,.slice mA mn mc,.int .i64 (c1:Int),.slice sA sn sc,.int .i64 ro,.int .i64 le,.int .i64 fi,.int .i64 la] 80)).alloc (.cells #[.int .i64 x.t,.int .i64 x.v] 45)).heap[w.heap.size+1]?=some (.cells #[.int .i64 t,.int .i64 v,.bool wrt,.int .i64 ((k:Int)+1),.slice eA en ec,.slice mA mn mc,.int .i64 (c1:Int),.slice sA sn sc,.int .i64 ro,.int .i64 le,.int .i64 fi,.int .i64 la] 80 (0,0)):=by
  have:=block_alloc (World.alloc_at (w.alloc (.cells #[.int .i64 kind,.int .i64 draw,m0,m1,m2,m3,m4,m5,m6,m7,m8,m9,k12,k13,k14,k15] 61)) (.cells #[.int .i64 t,.int .i64 v,.bool wrt,.int .i64 ((k:Int)+1),.slice eA en ec,.slice mA mn mc,.int .i64 (c1:Int),.slice sA sn sc,.int .i64 ro,.int .i64 le,.int .i64 fi,.int .i64 la] 80)) (.cells #[.int .i64 x.t,.int .i64 x.v] 45)
  rwa [World.alloc_size] at this
 have hO0:(((w.alloc (.cells #[.int .i64 kind,.int .i64 draw,m0,m1,m2,m3,m4,m5,m6,m7,m8,m9,k12,k13,k14,k15] 61)).alloc (.cells #[.int .i64 t,.int .i64 v,.bool wrt,.int .i64 ((k:Int)+1),.slice eA en ec,.slice mA mn mc,.int .i64 (c1:Int),.slice sA sn sc,.int .i64 ro,.int .i64 le,.int .i64 fi,.int .i64 la] 80)).alloc (.cells #[.int .i64 x.t,.int .i64 x.v] 45)).heap[w.heap.size+1+1]?=some (.cells #[.int .i64 x.t,.int .i64 x.v] 45 (0,0)):=by
  have:=World.alloc_at ((w.alloc (.cells #[.int .i64 kind,.int .i64 draw,m0,m1,m2,m3,m4,m5,m6,m7,m8,m9,k12,k13,k14,k15] 61)).alloc (.cells #[.int .i64 t,.int .i64 v,.bool wrt,.int .i64 ((k:Int)+1),.slice eA en ec,.slice mA mn mc,.int .i64 (c1:Int),.slice sA sn sc,.int .i64 ro,.int .i64 le,.int .i64 fi,.int .i64 la] 80)) (.cells #[.int .i64 x.t,.int .i64 x.v] 45)
  rwa [World.alloc_size,World.alloc_size] at this
 obtain ⟨z,hz⟩:∃ z,z=w.heap.size:=⟨_,rfl⟩
 rw [←hz] at hE0 hR0 hO0
 rw [←hz]
 have HZ:=ld hz
 clear hz hlb hlw d3 d4
 generalize ((w.alloc (.cells #[.int .i64 kind,.int .i64 draw,m0,m1,m2,m3,m4,m5,m6,m7,m8,m9,k12,k13,k14,k15] 61)).alloc (.cells #[.int .i64 t,.int .i64 v,.bool wrt,.int .i64 ((k:Int)+1),.slice eA en ec,.slice mA mn mc,.int .i64 (c1:Int),.slice sA sn sc,.int .i64 ro,.int .i64 le,.int .i64 fi,.int .i64 la] 80)).alloc (.cells #[.int .i64 x.t,.int .i64 x.v] 45)=W0 at hb0 hE0 hR0 hO0 ⊢
 have HE0:=ld hE0
 have HD0:=ld (DV.mk (g:=g) (HHA.out.below hb0) hR0 (Chg.ofBelow hb0) (by rw [HZ.out];exact Nat.le_succ _) (fun j hj=>hj) (fun j hj=>.inl hj) (fun j hj=>.inl hj))
 have HKE:Hid (∀ W,Chg (g.mut bw bs) w W→EntsS W SE eA qs∧MsgsS W SE mA mqs):=ld fun W hc=>⟨HES.out.keep fun j hj=>hc.keep (HSE.out j hj).1 (HSE.out j hj).2,HMS.out.keep fun j hj=>hc.keep (HSE.out j hj).1 (HSE.out j hj).2⟩
 have hlr:z+1<W0.heap.size:=block_lt hR0
 have hlo:z+1+1<W0.heap.size:=block_lt hO0
 obtain ⟨r0,r1,r2,r3,r4,r5,r6,r7,r8,r9,r10,r11⟩:=cells12' hR0
 have o0:W0.cell? ⟨z+1+1,0,none⟩=some (.int .i64 x.t):=cell_block hO0 0 _ rfl
 have o1:W0.cell? ⟨z+1+1,1,none⟩=some (.int .i64 x.v):=cell_block hO0 1 _ rfl
 clear hb0 hE0 hR0 hO0
 go_cut [57] (fun u wx=>u=.bool false∧wx=W0)
 case first =>
  rcases HAB.out with ⟨rfl,rfl⟩ | ⟨rfl,hx0,rfl⟩ | ⟨hlt,rfl⟩
  ·have hvv:(x.v != 0)=true∨(x.v != 0)=false:=by cases (x.v != 0) <;> simp
   rcases hvv with hvv | hvv
   ·go_wp2_with (fail)
    go_meet
    exact ⟨rfl,rfl⟩
   ·go_wp2_with (fail)
    go_meet
    exact ⟨rfl,rfl⟩
  ·have hvv:(x.v != 0)=false:=by rw [hx0];rfl
   have hvq:(v==x.v)=true∨(v==x.v)=false:=by cases (v==x.v) <;> simp
   clear hx0
   rcases hvq with hvq | hvq
   ·go_wp2_with (fail)
    go_meet
    exact ⟨rfl,rfl⟩
   ·go_wp2_with (fail)
    go_meet
    exact ⟨rfl,rfl⟩
  ·have hl1:decide (t<x.t)=false:=by simp;omega
   have hl2:(t==x.t)=false:=by simp;omega
   go_wp2_with (fail)
   go_meet
   exact ⟨rfl,rfl⟩
 case rest =>
  obtain ⟨rfl,rfl⟩:=hcut
  have e0:wc.cell? ⟨z,0,none⟩=some (.int .i64 kind):=cell_block HE0.out 0 _ rfl
  have hle:z<wc.heap.size:=block_lt HE0.out
  go_upto_if 121 with fail
  clear e0 hle o0 o1 hlo r0 r1 r2 r3 r4 r5 r6 r7 r8 r9 r10 r11 hlr
  go_cut [] (fun wx=>Hid (∃ S2 y,DV w wx S S2 bw bs (z+1) #[.int .i64 t,.int .i64 v,.bool wrt,.int .i64 ((k:Int)+1),.slice eA en ec,.slice mA mn mc,.int .i64 (c1:Int),.slice sA sn sc,.int .i64 ro,.int .i64 le,.int .i64 fi,.int .i64 la] g g (setS sg (i+1) y) net∧y.dl.map con=lg∧y={ x with t:=t,v:=v,dA:=y.dA,dn:=y.dn,dc:=y.dc,dl:=y.dl }))
  case first =>
   cases wrt with
   | false =>
    have hAB0:t=x.t∧v=x.v:=by rcases HAB.out with h | h | h;exact h;exact absurd h.2.2 (by decide);exact absurd h.2 (by decide)
    have HQ0:=ld hAB0
    clear hAB0
    have r2:wc.cell? ⟨z+1,2,none⟩=some (.bool false):=cell_block HD0.out.r 2 _ rfl
    have hlr:z+1<wc.heap.size:=block_lt HD0.out.r
    go_wp2_with (fail)
    go_meet
    refine ld ⟨S,x,?_,?_,?_⟩
    ·rw [setS_id HXI.out.2.1];exact HD0.out
    ·rw [HLG.out,if_neg (by decide)]
    ·rw [HQ0.out.1,HQ0.out.2]
   | true =>
    have HSX:Hid (∀ W S2 y sg2 g2 net2,sg2 (i+1)=y→VAt W S2 bw bs g2 sg2 net2→SAt W S2 b y):=ld fun W S2 y sg2 g2 net2 e hW=>e▸(hW.seat i b HXI.out.1).1
    have hsa:=HSX.out _ _ _ _ _ _ HXI.out.2.1 HD0.out.at_
    have d3:wc.cell? ⟨b,3,none⟩=some (.int .i64 x.t):=vs3 hsa.blk
    have d4:wc.cell? ⟨b,4,none⟩=some (.int .i64 x.v):=vs4 hsa.blk
    have hfb:=frozen_block hsa.blk
    have hlb:b<wc.heap.size:=block_lt hsa.blk
    have HSA0:=ld hsa
    clear hsa
    have r0:wc.cell? ⟨z+1,0,none⟩=some (.int .i64 t):=cell_block HD0.out.r 0 _ rfl
    have r1:wc.cell? ⟨z+1,1,none⟩=some (.int .i64 v):=cell_block HD0.out.r 1 _ rfl
    have r2:wc.cell? ⟨z+1,2,none⟩=some (.bool true):=cell_block HD0.out.r 2 _ rfl
    have hlr:z+1<wc.heap.size:=block_lt HD0.out.r
    go_upto_region 15 with (fail)
    have hD1:=HD0.out.seat (o:=3) (u:=.int .i64 t) (y:={ x with t:=t }) HXI.out.1 (by rw [HXI.out.2.1];rfl) (by rw [HXI.out.2.1]) HSA0.out.dl HSA0.out.dn HSA0.out.dc
    have hsa1:=HSX.out _ _ { x with t:=t } _ _ _ (if_pos rfl) hD1.at_
    have hD2:=hD1.seat (o:=4) (u:=.int .i64 v) (y:={ x with t:=t,v:=v }) HXI.out.1 (by unfold setS;rw [if_pos rfl];rfl) (by unfold setS;rw [if_pos rfl]) hsa1.dl hsa1.dn hsa1.dc
    rw [setS_setS] at hD2
    have HD2:=ld hD2
    clear d3 d4 hfb hlb r0 r1 r2 hlr hD1 hsa1 hD2 HSA0
    generalize (wc.setCell ⟨b,3,none⟩ (.int .i64 t)).setCell ⟨b,4,none⟩ (.int .i64 v)=W1 at HD2 ⊢
    have HSA2:=ld (HSX.out _ _ { x with t:=t,v:=v } _ _ _ (if_pos rfl) HD2.out.at_)
    have d5:W1.cell? ⟨b,5,none⟩=some (.int .i64 0):=vs5 HSA2.out.blk
    have hxn:x.dn=x.dl.length:=HSA2.out.dn
    have hxc:x.dl.length≤x.dc:=by rw [←hxn];exact HSA2.out.dc
    have d7:W1.cell? ⟨b,7,none⟩=some (.slice x.dA x.dl.length x.dc):=by rw [←hxn];exact cell_block HSA2.out.blk 7 _ rfl
    clear hxn
    have hlb:b<W1.heap.size:=block_lt HSA2.out.blk
    have r3:W1.cell? ⟨z+1,3,none⟩=some (.int .i64 ((k:Int)+1)):=cell_block HD2.out.r 3 _ rfl
    have hlr:z+1<W1.heap.size:=block_lt HD2.out.r
    have q3:IntKind.i64.wrap ((k:Int)+1-1)=(k:Int):=by rw [IntWalk.i64_in _ (by omega)];omega
    have q4:IntKind.i64.wrap ((k:Int)+1)=(k:Int)+1:=by rw [IntWalk.i64_in _ (by omega)]
    have q5:¬ ((k:Int)<0):=by omega
    have q6:¬ ((x.dl.length:Int)<(k:Int)):=by omega
    have q7:¬ (x.dl.length<k):=by omega
    go_quiet (fail)
    go_upto_region 18 with (fail)
    generalize hW2:W1.drewN _=W2
    have HD3:Hid (DV w W2 S S bw bs (z+1) #[.int .i64 t,.int .i64 v,.bool true,.int .i64 ((k:Int)+1),.slice eA en ec,.slice mA mn mc,.int .i64 (c1:Int),.slice sA sn sc,.int .i64 ro,.int .i64 le,.int .i64 fi,.int .i64 la] g g (setS sg (i+1) { x with t:=t,v:=v }) net):=ld (by rw [←hW2];exact HD2.out.drewN _)
    clear d5 d7 hlb r3 hlr HSA2 HD2 hW2 HD0 HE0 q3 q4 q5 q6 q7
    have HSA3:Hid (∀ W,Below W2.heap.size W2 W→SAt W S b { x with t:=t,v:=v }):=ld fun W hW=>HSX.out _ _ _ _ _ _ (if_pos rfl) (HD3.out.below hW).at_
    have HSS:Hid (∀ W,Below W2.heap.size W2 W→W.cell? ⟨b,7,none⟩=some (.slice x.dA x.dl.length x.dc)∧W.cell? ⟨z+1,4,none⟩=some (.slice eA en ec)):=ld fun W hW=>⟨by have e:x.dn=x.dl.length:=(HSA3.out W hW).dn;rw [←e];exact cell_block (HSA3.out W hW).blk 7 _ rfl,cell_block (HD3.out.below hW).r 4 _ rfl⟩
    have HL1:Hid (∀ W,Below W2.heap.size W2 W→Calls Tryz.prog 46 #[.slice x.dA k x.dc] W fun e w'=>∃ v qs,e=.returned v∧OEnts w' W.heap.size v qs∧qs.map con=(x.dl.take k).map con∧Below W.heap.size W w'):=ld (fun W hW=>copyLog_any _ _ _ (x.dl.take k) W (((HSA3.out W hW).dl.ents (HD3.out.below hW).at_.bd).take k) (by rw [List.length_take];omega) (by rw [List.length_take];omega))
    have HL2:Hid (∀ W,Below W2.heap.size W2 W→Calls Tryz.prog 46 #[.slice eA en ec] W fun e w'=>∃ v qs',e=.returned v∧OEnts w' W.heap.size v qs'∧qs'.map con=qs.map con∧Below W.heap.size W w'):=ld (fun W hW=>copyLog_any _ _ _ _ W ((HKE.out W (HD3.out.below hW).chg).1.ents (fun j hj=>by have:=(HSE.out j hj).1;have:=(HD3.out.below hW).ge;omega)) HN.out.1 (by omega))
    have hlb:b<W2.heap.size:=block_lt (HSA3.out _ (Below.refl _ _)).blk
    have hlr:z+1<W2.heap.size:=block_lt HD3.out.r
    have d7:=(HSS.out _ (Below.refl _ _).drew).1
    have hbx2:z+1≠b:=fun e=>absurd (ne_typed HD3.out.r (by rw [e];exact (HSA3.out _ (Below.refl _ _)).blk)) (by decide)
    have hkl':(k:Int)≤(x.dc:Int):=by omega
    refine wp_region_held_drew (S:=fun W:World=>W.cell? ⟨z+1,4,none⟩=some (.slice eA en ec)) (by kernel_rfl) (HSS.out _ (Below.refl _ _).drew).2 (fun hHeld=>?_)
    refine tks 0 (.pointer (some ⟨b,0,none⟩)) ?_
    refine tks 1 (.pointer (some ⟨b,0,none⟩)) ?_
    refine tks 2 (.pointer (some ⟨b,0,none⟩)) ?_
    refine tks 3 (.pointer (some ⟨b,3,none⟩)) ?_
    refine tks 4 (.pointer (some ⟨b,7,none⟩)) ?_
    refine tks 6 (.int .i64 (k:Int)) ?_
    refine tks 9 (.pointer (some ⟨z+1,4,none⟩)) ?_
    refine tks 10 (.slice eA en ec) ?_
    refine rdy 5 fun K hK=>?_
    go_simp
    refine hks hK ?_ fun hHeld=>?_
    ·exact (HSS.out _ (Below.refl _ _).drew).2
    clear hK K
    refine tks 7 (.slice x.dA k x.dc) ?_
    refine rdy 8 fun K hK=>?_
    go_simp
    refine (HL1.out _ (Below.refl _ _).drew).mono ?_
    rintro e w5 ⟨v1,qs1,rfl,hO1,hq1,hb5⟩
    have hb5c':=(show Below W2.heap.size W2 w5 from ⟨hb5.os,hb5.tape,hb5.output,hb5.size,hb5.block⟩)
    go_wp2_with fail
    refine hks hK ?_ fun hHeld=>?_
    ·exact (HSS.out _ hb5c').2
    clear hK K
    refine rdy 11 fun K hK=>?_
    go_simp
    refine (HL2.out _ hb5c').mono ?_
    rintro e w6 ⟨v2,qs2,rfl,hO2,hq2,hb6⟩
    have hb6c':=hb5c'.trans (hb6.mono hb5c'.size)
    go_wp2_with fail
    refine hks hK ?_ fun hHeld=>?_
    ·exact (HSS.out _ hb6c').2
    clear hK K
    have hO1':=(hO1.weaken (base':=W2.heap.size) (Nat.le_refl _)).below hb6 (Nat.le_refl _)
    have hO2':=hO2.weaken (base':=W2.heap.size) hb5c'.size
    obtain ⟨A2,k2,rfl⟩:=hO2'.own.form
    have hlq1:qs1.length=k:=by have:=congrArg List.length hq1;rw [List.length_map,List.length_map,List.length_take] at this;omega
    have hlq2:qs2.length=qs.length:=by have:=congrArg List.length hq2;simpa using this
    obtain ⟨v7,w7,hrun,hO7,hb7⟩:=app_ents (ty:=46) hO1' hO2' hb6c'.size (by omega)
    have hb7c:Below W2.heap.size W2 w7:=hb6c'.trans hb7
    refine rdy 12 fun K hK=>?_
    refine step_hrun (by rfl) _ _ 46 (by rfl) _ _ v7 w7 (by rfl) (by rfl) hrun ?_
    refine hks hK ?_ fun hHeld=>?_
    ·exact (HSS.out _ hb7c).2
    clear hK K
    obtain ⟨A7,k7,rfl⟩:=hO7.own.form
    have hsb7:=(HSA3.out _ hb7c).blk
    have hf7:=frozen_block hsb7
    have hlb7:b<w7.heap.size:=block_lt hsb7
    have d77:=(HSS.out _ hb7c).1
    refine tks 13 (.pointer (some ⟨b,0,none⟩)) ?_
    refine tks 14 (.pointer (some ⟨b,3,none⟩)) ?_
    refine tks 15 (.pointer (some ⟨b,7,none⟩)) ?_
    refine rdy 16 fun K hK=>?_
    go_simp
    refine hks hK ?_ fun hHeld=>?_
    ·exact (cell_heap' (Below.heap_setCell _ _ _ _ hbx2) _).trans (HSS.out _ hb7c).2
    clear hK K
    refine don ?_
    go_wp2_with fail
    go_meet
    have hO7':OEnts w7 W2.heap.size (.slice A7 (qs1++qs2).length k7) (qs1++qs2):=by
     have:=hO7
     simp only [List.length_map] at this
     exact this
    obtain ⟨he7,hn7,hc7⟩:=hO7'.entsS
    have hD7:=(HD3.out.more hb7c).seat (o:=7) (u:=.slice A7 (qs1++qs2).length k7) (y:={ x with t:=t,v:=v,dA:=A7,dn:=(qs1++qs2).length,dc:=k7,dl:=qs1++qs2 }) HXI.out.1 (by unfold setS;rw [if_pos rfl];rfl) (by unfold setS;rw [if_pos rfl]) (he7.mono fun j hj=>.inr hj) hn7 hc7
    rw [setS_setS] at hD7
    simp only [List.length_append,hlq1,hlq2] at hD7 ⊢
    refine ld ⟨_,_,hD7,?_,rfl⟩
    rw [HLG.out]
    simp only [↓reduceIte]
    rw [List.map_append,hq1,hq2,List.map_take]
  case rest =>
   obtain ⟨S2,y,hD,hdl,hy⟩:=hcut.out
   have HD:=ld hD
   have HDL:=ld hdl
   have HY:=ld hy
   clear hcut hD hdl hy HD0 HE0
   have hlr:z+1<wc.heap.size:=block_lt HD.out.r
   have r5:wc.cell? ⟨z+1,5,none⟩=some (.slice mA mn mc):=cell_block HD.out.r 5 _ rfl
   go_wp2_with (fail)
   go_loopw [12] (fun sl wr=>∃ (r:Nat) (Sr:Nat→Prop) (gr:VG) (nr:List (MR×List (LE×List Int))),sl=.int .i64 r∧r≤mn∧DV w wr S Sr bw bs (z+1) #[.int .i64 t,.int .i64 v,.bool wrt,.int .i64 ((k:Int)+1),.slice eA en ec,.slice mA mn mc,.int .i64 (c1:Int),.slice sA sn sc,.int .i64 ro,.int .i64 le,.int .i64 fi,.int .i64 la] g gr (setS sg (i+1) y) nr∧gr={ g with nA:=gr.nA,nn:=gr.nn,nc:=gr.nc }∧nr.map pmOf=net.map pmOf++(mqs.take r).map pmOf) (fun sl _=>mn-(intOf sl).toNat)
   case atStart=>exact ⟨0,S2,g,net,rfl,Nat.zero_le _,HD.out,rfl,by simp⟩
   case round =>
    obtain ⟨r,Sr,gr,nr,rfl,hr,hD,hgr,hnr⟩:=hrel
    have HD1:=ld hD
    have HGR:=ld hgr
    have HNR:=ld hnr
    have hnrl:nr.length=net.length+r:=by
     have:=congrArg List.length hnr
     simp only [List.length_map,List.length_append,List.length_take] at this
     have:=HN.out.2
     omega
    have hrm:r≤1000000000:=by have:=HN.out.2;omega
    have hnr2:nr.length+1≤1000000001:=by have:=HN.out.2;omega
    clear hD hgr hnr HD hlr r5 hnrl
    have hlr:z+1<wr.heap.size:=block_lt HD1.out.r
    have r5:wr.cell? ⟨z+1,5,none⟩=some (.slice mA mn mc):=cell_block HD1.out.r 5 _ rfl
    by_cases hlt:r<mn
    ·have hlt':(r:Int)<(mn:Int):=by omega
     obtain ⟨q,hq⟩:∃ q,mqs[r]?=some q:=⟨_,List.getElem?_eq_getElem (by have:=HN.out.2;omega)⟩
     have HQ:=ld hq
     have hM:=(HKE.out wr HD1.out.chg).2
     have hMq:=hM.each q (List.mem_of_getElem? hq)
     obtain ⟨bm,o,hA,hbm,hcm⟩:=RowS.at_ hM.row (show (mqs.map (·.1))[r]?=some q.1 by rw [List.getElem?_map,hq];rfl)
     have HMQ:=ld hMq
     subst hA
     have c0:wr.cell? ⟨bm,o+r*10,none⟩=some (.int .i64 q.1.kind):=hcm 0 _ rfl
     have c1':wr.cell? ⟨bm,o+r*10+1,none⟩=some (.int .i64 q.1.from_):=hcm 1 _ rfl
     have c2:wr.cell? ⟨bm,o+r*10+2,none⟩=some (.int .i64 q.1.to_):=hcm 2 _ rfl
     have c3:wr.cell? ⟨bm,o+r*10+3,none⟩=some (.int .i64 q.1.term):=hcm 3 _ rfl
     have c4:wr.cell? ⟨bm,o+r*10+4,none⟩=some (.int .i64 q.1.idx):=hcm 4 _ rfl
     have c5:wr.cell? ⟨bm,o+r*10+5,none⟩=some (.int .i64 q.1.lt):=hcm 5 _ rfl
     have c6:wr.cell? ⟨bm,o+r*10+6,none⟩=some (.int .i64 q.1.commit):=hcm 6 _ rfl
     have c7:wr.cell? ⟨bm,o+r*10+7,none⟩=some (.slice q.1.eA q.1.en q.1.ec):=hcm 7 _ rfl
     have c8:wr.cell? ⟨bm,o+r*10+8,none⟩=some (.bool q.1.rej):=hcm 8 _ rfl
     have c9:wr.cell? ⟨bm,o+r*10+9,none⟩=some (.int .i64 q.1.hint):=hcm 9 _ rfl
     have hbmw:bm<wr.heap.size:=by have:=(HSE.out bm hbm).1;have:=HD1.out.ge;omega
     clear hM hMq hcm hq
     go_wp2_with (fail)
     have hb1:Below wr.heap.size wr (wr.alloc (.cells #[.int .i64 q.1.kind,.int .i64 q.1.from_,.int .i64 q.1.to_,.int .i64 q.1.term,.int .i64 q.1.idx,.int .i64 q.1.lt,.int .i64 q.1.commit,.slice q.1.eA q.1.en q.1.ec,.bool q.1.rej,.int .i64 q.1.hint] 59)):=below_one wr _
     have hy1:=World.alloc_at wr (.cells #[.int .i64 q.1.kind,.int .i64 q.1.from_,.int .i64 q.1.to_,.int .i64 q.1.term,.int .i64 q.1.idx,.int .i64 q.1.lt,.int .i64 q.1.commit,.slice q.1.eA q.1.en q.1.ec,.bool q.1.rej,.int .i64 q.1.hint] 59)
     have hz1:(wr.alloc (.cells #[.int .i64 q.1.kind,.int .i64 q.1.from_,.int .i64 q.1.to_,.int .i64 q.1.term,.int .i64 q.1.idx,.int .i64 q.1.lt,.int .i64 q.1.commit,.slice q.1.eA q.1.en q.1.ec,.bool q.1.rej,.int .i64 q.1.hint] 59)).heap.size=wr.heap.size+1:=World.alloc_size ..
     obtain ⟨y5,hy5⟩:∃ y5,y5=wr.heap.size:=⟨_,rfl⟩
     rw [←hy5] at hy1 hz1
     rw [←hy5]
     have HY5:=ld hy5
     clear hy5 c0 c1' c2 c3 c4 c5 c6 c7 c8 c9 hbmw hlr r5
     generalize wr.alloc (.cells #[.int .i64 q.1.kind,.int .i64 q.1.from_,.int .i64 q.1.to_,.int .i64 q.1.term,.int .i64 q.1.idx,.int .i64 q.1.lt,.int .i64 q.1.commit,.slice q.1.eA q.1.en q.1.ec,.bool q.1.rej,.int .i64 q.1.hint] 59)=W1 at hb1 hy1 hz1 ⊢
     have hD1:=HD1.out.below hb1
     refine (copyLog_any _ _ _ q.2 W1 (((HKE.out W1 hD1.chg).2.each q (List.mem_of_getElem? HQ.out)).1.ents fun j hj=>by have:=(HSE.out j hj).1;have:=hD1.ge;omega) HMQ.out.2.1 (HQL.out q (List.mem_of_getElem? HQ.out))).mono ?_
     rintro e w5 ⟨v5,qs5,rfl,hO5,hq5,hb5⟩
     obtain ⟨A5,k5,rfl⟩:=hO5.own.form
     simp only [List.length_map] at hO5 ⊢
     have hy55:=(hb5.block y5 (by omega)).trans hy1
     have hly:y5<w5.heap.size:=block_lt hy55
     have hfy:=frozen_block hy55
     have y7:w5.cell? ⟨y5,7,none⟩=some (.slice q.1.eA q.1.en q.1.ec):=cell_block hy55 7 _ rfl
     go_upto_region 24 with (fail)
     have hb6:Below wr.heap.size wr (w5.setCell ⟨y5,7,none⟩ (.slice A5 qs5.length k5)):=Below.setCell' (hb1.trans (hb5.mono hb1.size)) (by have:=HY5.out;omega) _
     have hy6:(w5.setCell ⟨y5,7,none⟩ (.slice A5 qs5.length k5)).heap[y5]?=some (.cells #[.int .i64 q.1.kind,.int .i64 q.1.from_,.int .i64 q.1.to_,.int .i64 q.1.term,.int .i64 q.1.idx,.int .i64 q.1.lt,.int .i64 q.1.commit,.slice A5 qs5.length k5,.bool q.1.rej,.int .i64 q.1.hint] 59 (0,0)):=by rw [block_setCell hy55];rfl
     obtain ⟨he5,hn5,hc5⟩:=hO5.entsS
     have HQ6:=ld (show EntsS (w5.setCell ⟨y5,7,none⟩ (.slice A5 qs5.length k5)) (fun j=>Sr j∨(wr.heap.size≤j∧j<(w5.setCell ⟨y5,7,none⟩ (.slice A5 qs5.length k5)).heap.size)) A5 qs5 from (he5.keep (fun j hj=>Below.heap_setCell _ _ _ _ (fun e=>by simp only at e;have:=hj.1;omega))).mono fun j hj=>.inr ⟨by have:=hb1.size;omega,by simp only [World.setCell,Array.size_modify];exact hj.2⟩)
     have HD6:=ld (HD1.out.more hb6)
     have HC5:=ld (And.intro hc5 hq5)
     clear hb1 hy1 hz1 hD1 hO5 hb5 hy55 hly hfy y7 hb6 he5 hn5 hc5 hq5
     generalize w5.setCell ⟨y5,7,none⟩ (.slice A5 qs5.length k5)=W6 at hy6 HQ6 HD6 ⊢
     have HX6:=ld hy6
     have c7:=vw7 HD6.out.at_.wb
     have hfw:=frozen_block HD6.out.at_.wb
     have hlw:bw<W6.heap.size:=block_lt HD6.out.at_.wb
     have hly:y5<W6.heap.size:=block_lt hy6
     have hwy:y5≠bw:=fun e=>absurd (ne_typed HX6.out (by rw [e];exact HD6.out.at_.wb)) (by decide)
     have HOWN:Hid (∀ W2,Below W6.heap.size W6 W2→OwnO encM 10 59 W2 (.slice gr.nA gr.nn gr.nc) (nr.map (·.1))):=ld fun W2 hW=>(HD6.out.below hW).at_.netO
     have HNE:=ld (show some bw≠(Value.slice gr.nA gr.nn gr.nc).ownBlock∧some y5≠(Value.slice gr.nA gr.nn gr.nc).ownBlock from ⟨fun e=>(HD6.out.at_.vne.nt bw e.symm).1 rfl,fun e=>by
      have h1:=HD1.out.at_.mutLt y5 (.inr (.inr (.inr (.inr (.inr (.inr e.symm))))))
      have:=HY5.out
      omega⟩)
     have HSZ:Hid (∀ W:World,W.heap[y5]?=some (.cells #[.int .i64 q.1.kind,.int .i64 q.1.from_,.int .i64 q.1.to_,.int .i64 q.1.term,.int .i64 q.1.idx,.int .i64 q.1.lt,.int .i64 q.1.commit,.slice A5 qs5.length k5,.bool q.1.rej,.int .i64 q.1.hint] 59 (0,0))→(fun W:World=>W.cell? ⟨y5,0,none⟩=some (.int .i64 q.1.kind)∧W.cell? ⟨y5,1,none⟩=some (.int .i64 q.1.from_)∧W.cell? ⟨y5,2,none⟩=some (.int .i64 q.1.to_)∧W.cell? ⟨y5,3,none⟩=some (.int .i64 q.1.term)∧W.cell? ⟨y5,4,none⟩=some (.int .i64 q.1.idx)∧W.cell? ⟨y5,5,none⟩=some (.int .i64 q.1.lt)∧W.cell? ⟨y5,6,none⟩=some (.int .i64 q.1.commit)∧W.cell? ⟨y5,7,none⟩=some (.slice A5 qs5.length k5)∧W.cell? ⟨y5,8,none⟩=some (.bool q.1.rej)∧W.cell? ⟨y5,9,none⟩=some (.int .i64 q.1.hint)) W):=ld fun W hW=>cells10 (m:={ q.1 with eA:=A5,en:=qs5.length,ec:=k5 }) hW
     have HB6:=ld HD6.out.at_.wb
     have HLT:Hid (bw<(W6.alloc (.cells #[.int .i64 q.1.kind,.int .i64 q.1.from_,.int .i64 q.1.to_,.int .i64 q.1.term,.int .i64 q.1.idx,.int .i64 q.1.lt,.int .i64 q.1.commit,.slice A5 qs5.length k5,.bool q.1.rej,.int .i64 q.1.hint] 59)).drew.heap.size∧y5<(W6.alloc (.cells #[.int .i64 q.1.kind,.int .i64 q.1.from_,.int .i64 q.1.to_,.int .i64 q.1.term,.int .i64 q.1.idx,.int .i64 q.1.lt,.int .i64 q.1.commit,.slice A5 qs5.length k5,.bool q.1.rej,.int .i64 q.1.hint] 59)).drew.heap.size):=ld ⟨by show bw<(W6.alloc _).heap.size;rw [World.alloc_size];omega,by show y5<(W6.alloc _).heap.size;rw [World.alloc_size];omega⟩
     clear hy6 hly
     refine wp_region_held_drew (S:=fun W:World=>W.cell? ⟨y5,0,none⟩=some (.int .i64 q.1.kind)∧W.cell? ⟨y5,1,none⟩=some (.int .i64 q.1.from_)∧W.cell? ⟨y5,2,none⟩=some (.int .i64 q.1.to_)∧W.cell? ⟨y5,3,none⟩=some (.int .i64 q.1.term)∧W.cell? ⟨y5,4,none⟩=some (.int .i64 q.1.idx)∧W.cell? ⟨y5,5,none⟩=some (.int .i64 q.1.lt)∧W.cell? ⟨y5,6,none⟩=some (.int .i64 q.1.commit)∧W.cell? ⟨y5,7,none⟩=some (.slice A5 qs5.length k5)∧W.cell? ⟨y5,8,none⟩=some (.bool q.1.rej)∧W.cell? ⟨y5,9,none⟩=some (.int .i64 q.1.hint)) (by kernel_rfl) (HSZ.out W6.drew HX6.out) (fun hHeld=>?_)
     refine tks 0 (.pointer (some ⟨bw,0,none⟩)) ?_
     refine tks 1 (.pointer (some ⟨bw,0,none⟩)) ?_
     refine tks 2 (.pointer (some ⟨bw,0,none⟩)) ?_
     refine tks 3 (.pointer (some ⟨bw,7,none⟩)) ?_
     refine tk 5 (.agg #[.int .i64 q.1.kind,.int .i64 q.1.from_,.int .i64 q.1.to_,.int .i64 q.1.term,.int .i64 q.1.idx,.int .i64 q.1.lt,.int .i64 q.1.commit,.slice A5 qs5.length k5,.bool q.1.rej,.int .i64 q.1.hint]) ?_ ?_
     ·intro w hSw;obtain ⟨s0,s1,s2,s3,s4,s5,s6,s7,s8,s9⟩:=hSw;go_simp
     refine wpAnyH_ready (rs:=[4,6]) (by kernel_rfl) (by simp) ?_
     refine AllReadyH.cons rfl (fun K hK=>?_) (AllReadyH.cons rfl (fun K hK=>?_) AllReadyH.nil)
     ·
      go_simp
      refine hks hK ?_ fun hHeld=>?_
      ·exact HSZ.out _ HX6.out
      clear hK K
      refine rdy 6 fun K hK=>?_
      go_simp
      refine hks hK ?_ fun hHeld=>?_
      ·exact HSZ.out _ (block_alloc HX6.out _)
      clear hK K
      refine rdy 7 fun K hK=>?_
      obtain ⟨v3,W3,hrun3,hown3,hg3,hat3⟩:=OwnO.app (P:=Tryz.prog) (t:=38) (ty:=38) 96 Tryz.underlying38 info59 (by omega) len_M one_M (HOWN.out _ (below_one W6 (.cells #[.int .i64 q.1.kind,.int .i64 q.1.from_,.int .i64 q.1.to_,.int .i64 q.1.term,.int .i64 q.1.idx,.int .i64 q.1.lt,.int .i64 q.1.commit,.slice A5 qs5.length k5,.bool q.1.rej,.int .i64 q.1.hint] 59)).drew) _ _ 1 (row_one (m:={ q.1 with eA:=A5,en:=qs5.length,ec:=k5 }) (World.alloc_at _ _) (Nat.lt_succ_self _)) (by simp;omega) (by simp;omega)
      refine step_hrun (by rfl) _ _ 38 (by rfl) _ _ v3 W3 (by rfl) (by rfl) hrun3 ?_
      obtain ⟨A3,k3,hv3,hk3⟩:=hown3.form
      simp only [List.length_append,List.length_map,List.length_cons,List.length_nil,Nat.zero_add] at hv3
      subst hv3
      have HB3:=ld ((hg3.block bw HLT.out.1 HNE.out.1).trans (block_alloc HB6.out _))
      have HZ3:=ld ((hg3.block y5 HLT.out.2 HNE.out.2).trans (block_alloc HX6.out _))
      refine hks hK ?_ fun hHeld=>?_
      ·exact HSZ.out _ HZ3.out
      clear hK K
      have hf3:=frozen_block HB3.out
      have c73:W3.cell? ⟨bw,7,none⟩=some (.slice gr.nA gr.nn gr.nc):=vw7 HB3.out
      refine tks 8 (.pointer (some ⟨bw,0,none⟩)) ?_
      refine tks 9 (.pointer (some ⟨bw,7,none⟩)) ?_
      refine rdy 10 fun K hK=>?_
      go_simp
      refine hks hK ?_ fun hHeld=>?_
      ·exact HSZ.out _ ((Below.heap_setCell _ _ _ _ hwy).trans HZ3.out)
      clear hK K
      refine don ?_
      go_wp2_with fail
      go_roundw
      case rel =>
       have hO3:OwnO encM 10 59 W3 (.slice A3 (nr.length+1) k3) (List.map Prod.fst (nr++[({ q.1 with eA:=A5,en:=qs5.length,ec:=k5 },qs5)])):=by rw [List.map_append];exact hown3
       have hD3:=((HD6.out.below (below_one W6 (.cells #[.int .i64 q.1.kind,.int .i64 q.1.from_,.int .i64 q.1.to_,.int .i64 q.1.term,.int .i64 q.1.idx,.int .i64 q.1.lt,.int .i64 q.1.commit,.slice A5 qs5.length k5,.bool q.1.rej,.int .i64 q.1.hint] 59))).drewN 1).sent hg3 hO3 hat3 ⟨(HQ6.out.keep fun j hj=>(below_one W6 (.cells #[.int .i64 q.1.kind,.int .i64 q.1.from_,.int .i64 q.1.to_,.int .i64 q.1.term,.int .i64 q.1.idx,.int .i64 q.1.lt,.int .i64 q.1.commit,.slice A5 qs5.length k5,.bool q.1.rej,.int .i64 q.1.hint] 59)).block j (HD6.out.at_.bd j hj)),rfl,HC5.out.1⟩
       refine ⟨r+1,_,_,_,by go_num,by omega,hD3,?_,?_⟩
       ·have e:=HGR.out
        rw [e]
       ·rw [List.map_append,HNR.out,take_succ_map _ HQ.out,←List.append_assoc]
        congr 2
        show [MR.pm _ _]=[MR.pm _ _]
        unfold MR.pm
        rw [HC5.out.2]
      case measure=>simp [intOf];omega
     ·
      go_simp
      refine hks hK ?_ fun hHeld=>?_
      ·exact HSZ.out _ (block_alloc HX6.out _)
      clear hK K
      refine rdy 4 fun K hK=>?_
      go_simp
      refine hks hK ?_ fun hHeld=>?_
      ·exact HSZ.out _ (block_alloc HX6.out _)
      clear hK K
      refine rdy 7 fun K hK=>?_
      obtain ⟨v3,W3,hrun3,hown3,hg3,hat3⟩:=OwnO.app (P:=Tryz.prog) (t:=38) (ty:=38) 96 Tryz.underlying38 info59 (by omega) len_M one_M (HOWN.out _ (below_one W6 (.cells #[.int .i64 q.1.kind,.int .i64 q.1.from_,.int .i64 q.1.to_,.int .i64 q.1.term,.int .i64 q.1.idx,.int .i64 q.1.lt,.int .i64 q.1.commit,.slice A5 qs5.length k5,.bool q.1.rej,.int .i64 q.1.hint] 59)).drew) _ _ 1 (row_one (m:={ q.1 with eA:=A5,en:=qs5.length,ec:=k5 }) (World.alloc_at _ _) (Nat.lt_succ_self _)) (by simp;omega) (by simp;omega)
      refine step_hrun (by rfl) _ _ 38 (by rfl) _ _ v3 W3 (by rfl) (by rfl) hrun3 ?_
      obtain ⟨A3,k3,hv3,hk3⟩:=hown3.form
      simp only [List.length_append,List.length_map,List.length_cons,List.length_nil,Nat.zero_add] at hv3
      subst hv3
      have HB3:=ld ((hg3.block bw HLT.out.1 HNE.out.1).trans (block_alloc HB6.out _))
      have HZ3:=ld ((hg3.block y5 HLT.out.2 HNE.out.2).trans (block_alloc HX6.out _))
      refine hks hK ?_ fun hHeld=>?_
      ·exact HSZ.out _ HZ3.out
      clear hK K
      have hf3:=frozen_block HB3.out
      have c73:W3.cell? ⟨bw,7,none⟩=some (.slice gr.nA gr.nn gr.nc):=vw7 HB3.out
      refine tks 8 (.pointer (some ⟨bw,0,none⟩)) ?_
      refine tks 9 (.pointer (some ⟨bw,7,none⟩)) ?_
      refine rdy 10 fun K hK=>?_
      go_simp
      refine hks hK ?_ fun hHeld=>?_
      ·exact HSZ.out _ ((Below.heap_setCell _ _ _ _ hwy).trans HZ3.out)
      clear hK K
      refine don ?_
      go_wp2_with fail
      go_roundw
      case rel =>
       have hO3:OwnO encM 10 59 W3 (.slice A3 (nr.length+1) k3) (List.map Prod.fst (nr++[({ q.1 with eA:=A5,en:=qs5.length,ec:=k5 },qs5)])):=by rw [List.map_append];exact hown3
       have hD3:=((HD6.out.below (below_one W6 (.cells #[.int .i64 q.1.kind,.int .i64 q.1.from_,.int .i64 q.1.to_,.int .i64 q.1.term,.int .i64 q.1.idx,.int .i64 q.1.lt,.int .i64 q.1.commit,.slice A5 qs5.length k5,.bool q.1.rej,.int .i64 q.1.hint] 59))).drewN 1).sent hg3 hO3 hat3 ⟨(HQ6.out.keep fun j hj=>(below_one W6 (.cells #[.int .i64 q.1.kind,.int .i64 q.1.from_,.int .i64 q.1.to_,.int .i64 q.1.term,.int .i64 q.1.idx,.int .i64 q.1.lt,.int .i64 q.1.commit,.slice A5 qs5.length k5,.bool q.1.rej,.int .i64 q.1.hint] 59)).block j (HD6.out.at_.bd j hj)),rfl,HC5.out.1⟩
       refine ⟨r+1,_,_,_,by go_num,by omega,hD3,?_,?_⟩
       ·have e:=HGR.out
        rw [e]
       ·rw [List.map_append,HNR.out,take_succ_map _ HQ.out,←List.append_assoc]
        congr 2
        show [MR.pm _ _]=[MR.pm _ _]
        unfold MR.pm
        rw [HC5.out.2]
      case measure=>simp [intOf];omega
    ·have hrr:r=mn:=by omega
     have HNR2:Hid (nr.map pmOf=net.map pmOf++mqs.map pmOf):=ld (by rw [HNR.out,hrr,HN.out.2,List.take_length])
     clear HNR
     go_wp2_with (fail)
     go_loopw [191] (fun _ wr2=>∃ (d:Nat) (g3:VG),d≤nr.length∧DV w wr2 S Sr bw bs (z+1) #[.int .i64 t,.int .i64 v,.bool wrt,.int .i64 ((k:Int)+1),.slice eA en ec,.slice mA mn mc,.int .i64 (c1:Int),.slice sA sn sc,.int .i64 ro,.int .i64 le,.int .i64 fi,.int .i64 la] g g3 (setS sg (i+1) y) (nr.drop d)∧g3={ g with nA:=g3.nA,nn:=g3.nn,nc:=g3.nc }∧(d=0∨(g.calm=false∧d+200≤nr.length))) (fun _ wr2=>netLen bw wr2)
     case atStart=>exact ⟨0,gr,Nat.zero_le _,HD1.out,HGR.out,.inl rfl⟩
     case round =>
      obtain ⟨d,g3,hd,hD,hg3,hdd⟩:=hrel
      have HD3:=ld hD
      have HG3:=ld hg3
      have HDD:=ld hdd
      clear hD hg3 hdd HD1 HGR hlr r5
      have hnn:g3.nn=nr.length-d:=by
       obtain ⟨A,c,he,_⟩:=HD3.out.at_.netO.form
       injection he with _ he _
       rw [he,List.length_map,List.length_drop]
      have c7:=vw7 HD3.out.at_.wb
      have c13:=vw13 HD3.out.at_.wb
      have hcl:g3.calm=g.calm:=by rw [HG3.out]
      rw [hcl] at c13
      clear hcl
      have HNN:=ld hnn
      clear hnn
      have hlw:bw<wr.heap.size:=block_lt HD3.out.at_.wb
      by_cases hgo:200<g3.nn∧g.calm=false
      ·obtain ⟨h200,hcf⟩:=hgo
       rw [hcf] at c13
       have HCF:=ld hcf
       clear hcf
       have h200':(200:Int)<(g3.nn:Int):=by omega
       obtain ⟨q,rest,hqr⟩:∃ q rest,nr.drop d=q :: rest:=by
        cases hq:nr.drop d with
        | nil=>exfalso;have:=congrArg List.length hq;rw [List.length_drop,List.length_nil] at this;have:=HNN.out;omega
        | cons q rest=>exact ⟨q,rest,rfl⟩
       have HQR:=ld hqr
       obtain ⟨hn2,gb,go,hna,hDL⟩:=(show DV w wr S Sr bw bs (z+1) #[.int .i64 t,.int .i64 v,.bool wrt,.int .i64 ((k:Int)+1),.slice eA en ec,.slice mA mn mc,.int .i64 (c1:Int),.slice sA sn sc,.int .i64 ro,.int .i64 le,.int .i64 fi,.int .i64 la] g g3 (setS sg (i+1) y) (q :: rest) from hqr▸HD3.out).lost2 (by omega)
       rw [hna] at c7
       have HDL2:=ld hDL
       have hfw:=frozen_block HD3.out.at_.wb
       have hn3:1≤g3.nn:=by omega
       clear hna hDL
       clear hqr
       go_wp2_with (fail)
       go_roundw
       case rel =>
        refine ⟨d+1,_,by have:=HNN.out;omega,(by rw [←List.drop_drop,HQR.out];exact HDL2.out),by rw [HG3.out],.inr ⟨HCF.out,by have:=HNN.out;omega⟩⟩
       case measure =>
        show netLen bw _<netLen bw _
        unfold netLen
        rw [vw7 HDL2.out.at_.wb,vw7 HD3.out.at_.wb]
        show g3.nn-1<g3.nn
        omega
      ·have hsy:setS sg (i+1) y (i+1)=y:=if_pos rfl
       have hyd:=HY.out
       have HTL:=ld (told_any bw b i h bs g3 (setS sg (i+1) y) (nr.drop d) Sr KO VO LO id t v ((k:Int)+1) ro le fi la c0 c1 wrt eA mA sA en ec mn mc sn sc y wr HD3.out.at_ HXI.out.1 hsy (by rw [hyd];exact HXI.out.2.2) hoid (by rw [HG3.out];exact ⟨HK.out.high,HK.out.le,HK.out.v,HK.out.l,HK.out.k,HK.out.n⟩) HV.out HL.out (fun h1 h2 j e τ h3 h4=>by rw [HDL.out];refine HCP.out h1 (fun h5=>h2 ?_) j e τ h3 ?_;rw [hyd];exact h5;rw [hyd] at h4;exact h4) (by rw [hyd];exact HCM.out) hcc hch (by have e:=congrArg List.length HDL.out;rw [List.length_map] at e;omega) (by rw [HDL.out];exact HK1.out) (by rw [HDL.out];exact HK2.out) (by have e:=congrArg List.length HDL.out;rw [List.length_map] at e;rw [e];exact HLL.out) hti)
       clear hsy hyd
       obtain ⟨r0,r1,r2,r3,r4,r5',r6,r7,r8,r9,r10,r11⟩:=cells12' HD3.out.r
       have hlr:z+1<wr.heap.size:=block_lt HD3.out.r
       by_cases h200:200<g3.nn
       ·have hct:g.calm=true:=by cases hc:g.calm;exact absurd ⟨h200,hc⟩ hgo;rfl
        rw [hct] at c13
        have HCT:=ld hct
        have h200':(200:Int)<(g3.nn:Int):=by omega
        clear hgo hct
        have HCAP:Hid ((nr.drop d).map pmOf=capd g.calm (net.map pmOf++mqs.map pmOf)):=ld (by
         have e:d=0:=HDD.out.elim (fun hx=>hx) fun hx=>absurd (HCT.out.symm.trans hx.1) (by decide)
         rw [e,List.drop_zero,HNR2.out,HCT.out];rfl)
        go_wp2_with (fail)
        refine HTL.out.mono ?_
        rintro e w5 ⟨rfl,g',h',mo,hT⟩
        have HT:=ld hT
        have hD5:=HD3.out.told hT
        rw [setS_setS,setS_same] at hD5
        have HD5:=ld hD5
        clear hT hD5 r0 r1 r2 r3 r4 r5' r6 r7 r8 r9 r10 r11 hlr hlw c7 c13 HTL
        have hsy5:=(HD5.out.at_.seat i b HXI.out.1).1
        rw [setS_same] at hsy5
        have r8:w5.cell? ⟨z+1,8,none⟩=some (.int .i64 ro):=cell_block HD5.out.r 8 _ rfl
        have r9:w5.cell? ⟨z+1,9,none⟩=some (.int .i64 le):=cell_block HD5.out.r 9 _ rfl
        have hlr:z+1<w5.heap.size:=block_lt HD5.out.r
        have hlb:b<w5.heap.size:=block_lt hsy5.blk
        have hfb:=frozen_block hsy5.blk
        have d10:w5.cell? ⟨b,10,none⟩=some (.int .i64 y.ro):=cell_block hsy5.blk 10 _ rfl
        have d11:w5.cell? ⟨b,11,none⟩=some (.int .i64 y.le):=cell_block hsy5.blk 11 _ rfl
        have HS5:=ld hsy5
        clear hsy5
        go_wp2_with (fail)
        go_ret
        have hA:=HD5.out.seat (o:=10) (u:=.int .i64 ro) (y:={ y with cm:=(c1:Int),most:=mo,ro:=ro }) HXI.out.1 (by rw [setS_same];rfl) (by rw [setS_same]) HS5.out.dl HS5.out.dn HS5.out.dc
        rw [setS_setS] at hA
        have hsA:=(hA.at_.seat i b HXI.out.1).1
        rw [setS_same] at hsA
        have hB:=hA.seat (o:=11) (u:=.int .i64 le) (y:={ y with cm:=(c1:Int),most:=mo,ro:=ro,le:=le }) HXI.out.1 (by rw [setS_same];rfl) (by rw [setS_same]) hsA.dl hsA.dn hsA.dc
        rw [setS_setS] at hB
        have hyd:=HY.out
        have hge:=HT.out.eq
        have hg3:=HG3.out
        exact ⟨rfl,Sr,g',h',_,_,⟨hB.at_,hB.chg,hB.sub,hB.sub',hB.mu,⟨by rw [hyd],by rw [hyd],by rw [hyd],by rw [hyd],rfl,rfl,rfl,HDL.out⟩,⟨by rw [hge,hg3],by rw [hge,hg3],by rw [hge,hg3],by rw [hge,hg3],by rw [hge,hg3],by rw [hge,hg3],by rw [hge,hg3],by rw [hge,hg3]⟩,HCAP.out,HT.out.inv,HT.out.hh,HT.out.hc⟩⟩
       ·have h200':¬ ((200:Int)<(g3.nn:Int)):=by omega
        clear hgo
        have HCAP:Hid ((nr.drop d).map pmOf=capd g.calm (net.map pmOf++mqs.map pmOf)):=ld (by
         have hl:(net.map pmOf++mqs.map pmOf).length=nr.length:=by rw [←HNR2.out,List.length_map]
         have hnn:=HNN.out
         rw [List.map_drop,HNR2.out]
         unfold capd
         rw [hl]
         rcases HDD.out with hx | hx
         ·have e:nr.length-200=0:=by omega
          rw [e,hx]
          split <;> simp
         ·rw [hx.1,if_neg (by decide),show nr.length-200=d by omega])
        go_wp2_with (fail)
        refine HTL.out.mono ?_
        rintro e w5 ⟨rfl,g',h',mo,hT⟩
        have HT:=ld hT
        have hD5:=HD3.out.told hT
        rw [setS_setS,setS_same] at hD5
        have HD5:=ld hD5
        clear hT hD5 r0 r1 r2 r3 r4 r5' r6 r7 r8 r9 r10 r11 hlr hlw c7 c13 HTL
        have hsy5:=(HD5.out.at_.seat i b HXI.out.1).1
        rw [setS_same] at hsy5
        have r8:w5.cell? ⟨z+1,8,none⟩=some (.int .i64 ro):=cell_block HD5.out.r 8 _ rfl
        have r9:w5.cell? ⟨z+1,9,none⟩=some (.int .i64 le):=cell_block HD5.out.r 9 _ rfl
        have hlr:z+1<w5.heap.size:=block_lt HD5.out.r
        have hlb:b<w5.heap.size:=block_lt hsy5.blk
        have hfb:=frozen_block hsy5.blk
        have d10:w5.cell? ⟨b,10,none⟩=some (.int .i64 y.ro):=cell_block hsy5.blk 10 _ rfl
        have d11:w5.cell? ⟨b,11,none⟩=some (.int .i64 y.le):=cell_block hsy5.blk 11 _ rfl
        have HS5:=ld hsy5
        clear hsy5
        go_wp2_with (fail)
        go_ret
        have hA:=HD5.out.seat (o:=10) (u:=.int .i64 ro) (y:={ y with cm:=(c1:Int),most:=mo,ro:=ro }) HXI.out.1 (by rw [setS_same];rfl) (by rw [setS_same]) HS5.out.dl HS5.out.dn HS5.out.dc
        rw [setS_setS] at hA
        have hsA:=(hA.at_.seat i b HXI.out.1).1
        rw [setS_same] at hsA
        have hB:=hA.seat (o:=11) (u:=.int .i64 le) (y:={ y with cm:=(c1:Int),most:=mo,ro:=ro,le:=le }) HXI.out.1 (by rw [setS_same];rfl) (by rw [setS_same]) hsA.dl hsA.dn hsA.dc
        rw [setS_setS] at hB
        have hyd:=HY.out
        have hge:=HT.out.eq
        have hg3:=HG3.out
        exact ⟨rfl,Sr,g',h',_,_,⟨hB.at_,hB.chg,hB.sub,hB.sub',hB.mu,⟨by rw [hyd],by rw [hyd],by rw [hyd],by rw [hyd],rfl,rfl,rfl,HDL.out⟩,⟨by rw [hge,hg3],by rw [hge,hg3],by rw [hge,hg3],by rw [hge,hg3],by rw [hge,hg3],by rw [hge,hg3],by rw [hge,hg3],by rw [hge,hg3]⟩,HCAP.out,HT.out.inv,HT.out.hh,HT.out.hc⟩⟩
end Go.Proofs.YtocogcgnahbpkaaGreat
