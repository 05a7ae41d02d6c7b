import Derived.WideKeyEntry
import Derived.Test.YtocogcgnahbpkaaGreatC12
import Derived.Test.YtocogcgnahbpkaaGreatC17
import Derived.Test.YtocogcgnahbpkaaGreatC19
namespace Go.Proofs.YtocogcgnahbpkaaGreat
open Go.RowKit
structure TV (w wx:World) (S:Nat→Prop) (bw:Nat) (bs:List Nat) (x:Nat) (r:Array Value) (g g2:VG) (sg:Nat→SG) (net:List (MR×List (LE×List Int))):Prop where
 at_:VAt wx S bw bs g2 sg net
 r:wx.heap[x]?=some (.cells r 80 (0,0))
 chg:Chg (g.mut bw bs) w wx
 x:w.heap.size≤x
section
variable {w wx wy:World} {S:Nat→Prop} {bw x:Nat} {bs:List Nat} {r:Array Value} {g g2:VG} {sg sg':Nat→SG} {net:List (MR×List (LE×List Int))}
theorem TV.drewN (h:TV w wx S bw bs x r g g2 sg net) (n:Nat):TV w (wx.drewN n) S bw bs x r g g2 sg net:=⟨h.at_.drewN n,h.r,h.chg.drewN n,h.x⟩
theorem TV.below (h:TV w wx S bw bs x r g g2 sg net) (hb:Below wx.heap.size wx wy):TV w wy S bw bs x r g g2 sg net:=⟨h.at_.below hb,(hb.block x (block_lt h.r)).trans h.r,h.chg.below hb,h.x⟩
theorem TV.step (h:TV w wx S bw bs x r g g2 sg net) {g3:VG} {c:Nat} (ha:VAt wy S bw bs g3 sg' net) (hc:Chg (·=c) wx wy) (hm:g.mut bw bs c) (hne:c≠x):TV w wy S bw bs x r g g3 sg' net :=
 ⟨ha,(hc.keep (block_lt h.r) (fun e=>hne e.symm)).trans h.r,h.chg.trans2 hc (fun i hi=>by subst hi;exact .inl hm),h.x⟩
theorem TV.revoted (h:TV w wx S bw bs x r g g2 sg net) (hm:g2.mV=g.mV) (hg:wx.grownBy wy (some g2.mV)) {l:List ((Int×Int)×Int)} (hl:MapG Tryz.prog 150 encV (Value.int .i64) wy g2.mV l):TV w wy S bw bs x r g { g2 with voted:=l } sg net :=
 h.step (h.at_.revoted (grown_chg hg) hl) (grown_chg hg) (.inr (.inr (.inr (.inl hm)))) (h.at_.voted.ne h.r)
theorem TV.reled (h:TV w wx S bw bs x r g g2 sg net) (hm:g2.mL=g.mL) (hg:wx.grownBy wy (some g2.mL)) {l:List (Int×Int)} (hl:MI wy g2.mL l):TV w wy S bw bs x r g { g2 with led:=l } sg net :=
 h.step (h.at_.reled (grown_chg hg) hl) (grown_chg hg) (.inr (.inr (.inl hm))) (h.at_.led.ne h.r)
theorem TV.reknown (h:TV w wx S bw bs x r g g2 sg net) (hm:g2.mK=g.mK) (hg:wx.grownBy wy (some g2.mK)) {l:List (Int×(LE×List Int))} (hl:MapG Tryz.prog 3 (Value.int .i64) encK wy g2.mK l)
  (hkb:∀ p∈l,RowS encB 1 wx S p.2.1.A p.2.2∧p.2.1.n=p.2.2.length∧p.2.2.length≤140737488351232):TV w wy S bw bs x r g { g2 with known:=l } sg net :=
 h.step (h.at_.reknown (grown_chg hg) hl hkb) (grown_chg hg) (.inr (.inr (.inr (.inr (.inl hm))))) (h.at_.known.ne h.r)
theorem TV.retm (h:TV w wx S bw bs x r g g2 sg net) (hm:g2.mT=g.mT) (hg:wx.grownBy wy (some g2.mT)) {l:List (Int×Int)} (hl:MI wy g2.mT l):TV w wy S bw bs x r g { g2 with tm:=l } sg net :=
 h.step (h.at_.retm (grown_chg hg) hl) (grown_chg hg) (.inr (.inr (.inr (.inr (.inr (.inl hm)))))) (h.at_.tm.ne h.r)
theorem TV.bx (h:TV w wx S bw bs x r g g2 sg net):bw≠x∧x ∉ bs :=
 ⟨fun e=>absurd (ne_typed h.at_.wb (by rw [e];exact h.r)) (by decide),fun e=>by obtain ⟨y,hy⟩:=h.at_.blkS e;exact absurd (ne_typed hy h.r) (by decide)⟩
theorem TV.rehigh (h:TV w wx S bw bs x r g g2 sg net) (z:Int):TV w (wx.setCell ⟨bw,12,none⟩ (.int .i64 z)) S bw bs x r g { g2 with high:=z } sg net :=
 h.step (h.at_.rehigh (chg1 Chg.refl _) (by rw [block_setCell h.at_.wb];rfl)) (chg1 Chg.refl _) (.inl rfl) h.bx.1
theorem TV.recm {i b:Nat} (h:TV w wx S bw bs x r g g2 sg net) (hi:bs[i]?=some b) (z:Int):TV w (wx.setCell ⟨b,8,none⟩ (.int .i64 z)) S bw bs x r g g2 (setS sg (i+1) { sg (i+1) with cm:=z }) net :=
 h.step (h.at_.reseat hi (chg1 Chg.refl _) (by rw [block_setCell (h.at_.seat i b hi).1.blk];rfl) (h.at_.seat i b hi).2 (h.at_.seat i b hi).1.dl (h.at_.seat i b hi).1.dn (h.at_.seat i b hi).1.dc) (chg1 Chg.refl _) (.inr (.inl (List.mem_of_getElem? hi))) fun e=>h.bx.2 (e▸List.mem_of_getElem? hi)
theorem TV.remost {i b:Nat} (h:TV w wx S bw bs x r g g2 sg net) (hi:bs[i]?=some b) (z:Int):TV w (wx.setCell ⟨b,9,none⟩ (.int .i64 z)) S bw bs x r g g2 (setS sg (i+1) { sg (i+1) with most:=z }) net :=
 h.step (h.at_.reseat hi (chg1 Chg.refl _) (by rw [block_setCell (h.at_.seat i b hi).1.blk];rfl) (h.at_.seat i b hi).2 (h.at_.seat i b hi).1.dl (h.at_.seat i b hi).1.dn (h.at_.seat i b hi).1.dc) (chg1 Chg.refl _) (.inr (.inl (List.mem_of_getElem? hi))) fun e=>h.bx.2 (e▸List.mem_of_getElem? hi)
theorem setS_same (j:Nat) (x:SG):setS sg j x j=x:=if_pos rfl
theorem setS_setS (j:Nat) (x y:SG):setS (setS sg j x) j y=setS sg j y:=by
 funext k
 unfold setS
 by_cases h:k=j <;> simp [h]
end
section
variable {KO:Nat→E→Int→Prop} {VO:Int×Int→Int→Prop} {LO:Int→Int→Prop} {g:VG} {h j:Nat}
theorem TInv.putV (k:TInv KO VO LO g h) {x:Int×Int} {v:Int} (hv:VO x v):TInv KO VO LO { g with voted:=kput g.voted x v } h :=
 ⟨k.high,k.le,fun y u hy=>by
  rw [kget_kput] at hy
  split at hy
  ·rename_i e;subst e;injection hy with hy;subst hy;exact hv
  ·exact k.v y u hy,k.l,k.k,k.n⟩
theorem TInv.putL (k:TInv KO VO LO g h) {x:Int} {v:Int} (hv:LO x v):TInv KO VO LO { g with led:=kput g.led x v } h :=
 ⟨k.high,k.le,k.v,fun y u hy=>by
  rw [kget_kput] at hy
  split at hy
  ·rename_i e;subst e;injection hy with hy;subst hy;exact hv
  ·exact k.l y u hy,k.k,k.n⟩
theorem TInv.putK (k:TInv KO VO LO g h) (hj:j<h) {p:LE×List Int} (hp:∀ q τ,kget g.known ((j:Int)+1)=some q→KO j (con q) τ→KO j (con p) τ):TInv KO VO LO { g with known:=kput g.known ((j:Int)+1) p } h :=
 ⟨k.high,k.le,k.v,k.l,fun i hi=>by
  obtain ⟨q,τ,h1,h2,h3⟩:=k.k i hi
  by_cases e:(i:Int)+1=(j:Int)+1
  ·have:i=j:=by omega
   subst this
   exact ⟨p,τ,by show kget (kput _ _ _) _=_;rw [kget_kput,if_pos rfl],h2,hp q τ h1 h3⟩
  ·exact ⟨q,τ,by show kget (kput _ _ _) _=_;rw [kget_kput,if_neg e];exact h1,h2,h3⟩,fun i hi=>by show kget (kput _ _ _) _=_;rw [kget_kput,if_neg (by omega)];exact k.n i hi⟩
theorem TInv.putT (k:TInv KO VO LO g h) (hj:j<h) {τ:Int} (hp:∀ q,kget g.known ((j:Int)+1)=some q→KO j (con q) τ):TInv KO VO LO { g with tm:=kput g.tm ((j:Int)+1) τ } h :=
 ⟨k.high,k.le,k.v,k.l,fun i hi=>by
  obtain ⟨q,τ',h1,h2,h3⟩:=k.k i hi
  by_cases e:(i:Int)+1=(j:Int)+1
  ·have:i=j:=by omega
   subst this
   exact ⟨q,τ,h1,by show kget (kput _ _ _) _=_;rw [kget_kput,if_pos rfl],hp q h1⟩
  ·exact ⟨q,τ',h1,by show kget (kput _ _ _) _=_;rw [kget_kput,if_neg e];exact h2,h3⟩,k.n⟩
theorem TInv.new (k:TInv KO VO LO g h) {p:LE×List Int} {τ:Int} (hp:KO h (con p) τ) (hle:h+1≤100000):TInv KO VO LO { g with known:=kput g.known ((h:Int)+1) p,tm:=kput g.tm ((h:Int)+1) τ,high:=(h:Int)+1 } (h+1) :=
 ⟨rfl,hle,k.v,k.l,fun i hi=>by
  by_cases e:(i:Int)+1=(h:Int)+1
  ·have:i=h:=by omega
   subst this
   exact ⟨p,τ,by show kget (kput _ _ _) _=_;rw [kget_kput,if_pos rfl],by show kget (kput _ _ _) _=_;rw [kget_kput,if_pos rfl],hp⟩
  ·obtain ⟨q,τ',h1,h2,h3⟩:=k.k i (by omega)
   exact ⟨q,τ',by show kget (kput _ _ _) _=_;rw [kget_kput,if_neg e];exact h1,by show kget (kput _ _ _) _=_;rw [kget_kput,if_neg e];exact h2,h3⟩,fun i hi=>by show kget (kput _ _ _) _=_;rw [kget_kput,if_neg (by push_cast at hi;omega)];exact k.n i (by push_cast at hi;omega)⟩
end
structure ToldV (w w':World) (S:Nat→Prop) (bw:Nat) (bs:List Nat) (g g':VG) (sg:Nat→SG) (net:List (MR×List (LE×List Int))) (i:Nat) (c1 h h':Nat) (mo:Int) (KO:Nat→E→Int→Prop) (VO:Int×Int→Int→Prop) (LO:Int→Int→Prop):Prop where
 at_:VAt w' S bw bs g' (setS sg (i+1) { sg (i+1) with cm:=(c1:Int),most:=mo }) net
 eq:g'={ g with led:=g'.led,voted:=g'.voted,known:=g'.known,tm:=g'.tm,high:=g'.high }
 inv:TInv KO VO LO g' h'
 hc:c1≤h'
 hh:h≤h'
 chg:Chg (g.mut bw bs) w w'
set_option maxRecDepth 100000 in
set_option maxHeartbeats 4000000 in
theorem told_any (bw b i h:Nat) (bs:List Nat) (g:VG) (sg:Nat→SG) (net:List (MR×List (LE×List Int))) (S:Nat→Prop) (KO:Nat→E→Int→Prop) (VO:Int×Int→Int→Prop) (LO:Int→Int→Prop) (id t v fr ro le fi la:Int) (c0 c1:Nat) (wrt:Bool) (eA mA sA:Option Addr) (en ec mn mc sn sc:Nat) (x:SG) (w:World)
  (ha:VAt w S bw bs g sg net) (hbi:bs[i]?=some b) (hx:sg (i+1)=x) (hid:x.id=id) (hoid:okI id) (hk:TInv KO VO LO g h)
  (hv:v≠0→VO (id,t) v∧∀ y,VO (id,t) y→y=v) (hl:ro=4→le=id∧LO t id∧∀ y,LO t y→y=id) (hcp:ro=4→x.ro≠4→∀ j e τ,KO j e τ→τ<x.t→(x.dl.map con)[j]?=some e)
  (hcm:x.cm=c0) (hcc:c0≤c1) (hch:c0≤h) (hc1:c1≤x.dl.length) (hk1:∀ j,j<c1→∀ e τ,KO j e τ→(x.dl.map con)[j]?=some e) (hk2:∀ j e,j<c1→(x.dl.map con)[j]?=some e→KO j e t) (hdl:x.dl.length≤100000) (hti:okI t) :
  Calls Tryz.prog 60 #[.pointer (some ⟨bw,0,none⟩),.pointer (some ⟨b,0,none⟩),.agg #[.int .i64 t,.int .i64 v,.bool wrt,.int .i64 fr,.slice eA en ec,.slice mA mn mc,.int .i64 (c1:Int),.slice sA sn sc,.int .i64 ro,.int .i64 le,.int .i64 fi,.int .i64 la]] w fun e w'=>e=.returned (.bool true)∧∃ g' h' mo,ToldV w w' S bw bs g g' sg net i c1 h h' mo KO VO LO:=by
 have HV:=ld hv
 have HL:=ld hl
 have HCP:=ld hcp
 have HK1:=ld hk1
 have HK2:=ld hk2
 have HK:=ld hk
 have HSA:Hid (∀ W g2,VAt W S bw bs g2 sg net→SAt W S b x):=ld fun W g2 hW=>hx▸(hW.seat i b hbi).1
 have HXI:=ld (And.intro hbi hx)
 have HTV:=ld (TV.mk (g:=g) (r:=#[.int .i64 t,.int .i64 v,.bool wrt,.int .i64 fr,.slice eA en ec,.slice mA mn mc,.int .i64 (c1:Int),.slice sA sn sc,.int .i64 ro,.int .i64 le,.int .i64 fi,.int .i64 la]) (ha.below (below_one w _)) (World.alloc_at w _) (Chg.ofBelow (below_one w _)) (Nat.le_refl _))
 obtain ⟨xx,hxx⟩:∃ xx,xx=w.heap.size:=⟨_,rfl⟩
 rw [←hxx] at HTV
 clear hv hl hcp hk1 hk2 hk ha hbi hx
 go_enter Tryz.func60,Tryz.ntmps60
 go_upto_if 24 with fail
 rw [←hxx]
 generalize w.alloc (.cells #[.int .i64 t,.int .i64 v,.bool wrt,.int .i64 fr,.slice eA en ec,.slice mA mn mc,.int .i64 (c1:Int),.slice sA sn sc,.int .i64 ro,.int .i64 le,.int .i64 fi,.int .i64 la] 80)=W0 at HTV ⊢
 have HXX:=ld hxx
 clear hxx
 have hlx:xx<W0.heap.size:=block_lt HTV.out.r
 obtain ⟨r0,r1,r2,r3,r4,r5,r6,r7,r8,r9,r10,r11⟩:=cells12' HTV.out.r
 go_cut [] (fun wx=>Hid (∃ vt,TV w wx S bw bs xx #[.int .i64 t,.int .i64 v,.bool wrt,.int .i64 fr,.slice eA en ec,.slice mA mn mc,.int .i64 (c1:Int),.slice sA sn sc,.int .i64 ro,.int .i64 le,.int .i64 fi,.int .i64 la] g { g with voted:=vt } sg net∧TInv KO VO LO { g with voted:=vt } h))
 case first =>
  by_cases hv0:v=0
  ·subst hv0
   go_wp2_with (fail)
   go_meet
   exact ld ⟨g.voted,HTV.out,HK.out⟩
  ·have hvb:(v != 0)=true:=by simpa using hv0
   have HVV:=ld (HV.out hv0)
   have hlw:=block_lt HTV.out.at_.wb
   have hlb:=block_lt (HSA.out _ _ HTV.out.at_).blk
   have d0:=vs0 (HSA.out _ _ HTV.out.at_).blk
   rw [hid] at d0
   have c9:=vw9 HTV.out.at_.wb
   clear hv0
   go_upto_region 4 with (fail)
   obtain ⟨y,hy⟩:∃ y,y=W0.heap.size:=⟨_,rfl⟩
   rw [←hy]
   have HT1:=ld (HTV.out.below (below_one W0 (.cells #[.int .i64 id,.int .i64 t] 150)))
   have hY1:=World.alloc_at W0 (.cells #[.int .i64 id,.int .i64 t] 150)
   rw [←hy] at hY1
   have HYY:=ld hy
   clear hy
   clear r0 r1 r2 r3 r4 r5 r6 r7 r8 r9 r10 r11 hlx hlw hlb d0 c9
   generalize W0.alloc (.cells #[.int .i64 id,.int .i64 t] 150)=W1 at HT1 hY1 ⊢
   have hlw:=block_lt HT1.out.at_.wb
   have hly:=block_lt hY1
   have hlx:=block_lt HT1.out.r
   have c9:=vw9 HT1.out.at_.wb
   have y0:W1.cell? ⟨y,0,none⟩=some (.int .i64 id):=cell_block hY1 0 _ rfl
   have y1:W1.cell? ⟨y,1,none⟩=some (.int .i64 t):=cell_block hY1 1 _ rfl
   have r1:W1.cell? ⟨xx,1,none⟩=some (.int .i64 v):=cell_block HT1.out.r 1 _ rfl
   have hokv:okV (id,t):=⟨hoid,hti⟩
   have lk:∃ z fnd,(∀ j,(Instr.lookup 40 (.map (some g.mV)) (.agg #[.int .i64 id,.int .i64 t]) true).run Tryz.prog (W1.drewN j)=.ok (.tuple #[.int .i64 z,.bool fnd]) (W1.drewN j))∧((fnd=false)∨(fnd=true∧z=v)):=by
    have:=fun j=>(HT1.out.at_.drewN j).voted.look_ok KV Tryz.underlying40 (id,t) hokv _ zero3
    cases hq:kget g.voted (id,t) with
    | none=>rw [hq] at this;exact ⟨0,false,this,.inl rfl⟩
    | some u=>rw [hq] at this;exact ⟨u,true,this,.inr ⟨rfl,HVV.out.2 _ (HK.out.v _ _ hq)⟩⟩
   have HY1:=ld hY1
   obtain ⟨z,fnd,hlk,hz⟩:=lk
   clear hY1
   rcases hz with rfl | ⟨rfl,rfl⟩
   ·go_quiet (fail)
    go_upto_region 7 with (fail)
    generalize hW2:W1.drewN _=W2
    have HT2:Hid (TV w W2 S bw bs xx _ g g sg net):=ld (hW2▸HT1.out.drewN _)
    have hlw:bw<W2.heap.size:=by rw [←hW2];exact hlw
    have hly:y<W2.heap.size:=by rw [←hW2];exact hly
    have hlx:xx<W2.heap.size:=by rw [←hW2];exact hlx
    have c9:W2.cell? ⟨bw,9,none⟩=some (.map (some g.mV)):=by rw [←hW2];exact c9
    have y0:W2.cell? ⟨y,0,none⟩=some (.int .i64 id):=by rw [←hW2];exact y0
    have y1:W2.cell? ⟨y,1,none⟩=some (.int .i64 t):=by rw [←hW2];exact y1
    have r1:W2.cell? ⟨xx,1,none⟩=some (.int .i64 v):=by rw [←hW2];exact r1
    clear hlk hW2
    obtain ⟨W3,hrun,hm3,hg3,hs3⟩:=(HT2.out.at_.drewN 1).voted.put KV Tryz.underlying40 (id,t) hokv v
    have hrun':(Instr.mapUpdate 40 (.map (some g.mV)) (.agg #[.int .i64 id,.int .i64 t]) (.int .i64 v)).run Tryz.prog W2.drew=.ok () W3:=hrun
    go_region
    go_wp2_with (fail)
    go_meet
    exact ld ⟨_,(HT2.out.drewN 1).revoted rfl hg3 hm3,HK.out.putV HVV.out.1⟩
   ·go_quiet (fail)
    go_upto_region 7 with (fail)
    generalize hW2:W1.drewN _=W2
    have HT2:Hid (TV w W2 S bw bs xx _ g g sg net):=ld (hW2▸HT1.out.drewN _)
    have hlw:bw<W2.heap.size:=by rw [←hW2];exact hlw
    have hly:y<W2.heap.size:=by rw [←hW2];exact hly
    have hlx:xx<W2.heap.size:=by rw [←hW2];exact hlx
    have c9:W2.cell? ⟨bw,9,none⟩=some (.map (some g.mV)):=by rw [←hW2];exact c9
    have y0:W2.cell? ⟨y,0,none⟩=some (.int .i64 id):=by rw [←hW2];exact y0
    have y1:W2.cell? ⟨y,1,none⟩=some (.int .i64 t):=by rw [←hW2];exact y1
    have r1:W2.cell? ⟨xx,1,none⟩=some (.int .i64 z):=by rw [←hW2];exact r1
    clear hlk hW2
    obtain ⟨W3,hrun,hm3,hg3,hs3⟩:=(HT2.out.at_.drewN 1).voted.put KV Tryz.underlying40 (id,t) hokv z
    have hrun':(Instr.mapUpdate 40 (.map (some g.mV)) (.agg #[.int .i64 id,.int .i64 t]) (.int .i64 z)).run Tryz.prog W2.drew=.ok () W3:=hrun
    go_region
    go_wp2_with (fail)
    go_meet
    exact ld ⟨_,(HT2.out.drewN 1).revoted rfl hg3 hm3,HK.out.putV HVV.out.1⟩
 case rest =>
  obtain ⟨vt,hT,hvt⟩:=hcut.out
  have HT:=ld hT
  have HVT:=ld hvt
  clear hT hvt hcut HTV r0 r1 r2 r3 r4 r5 r6 r7 r8 r9 r10 r11 hlx HK
  have r8:wc.cell? ⟨xx,8,none⟩=some (.int .i64 ro):=cell_block HT.out.r 8 _ rfl
  have hlx:xx<wc.heap.size:=block_lt HT.out.r
  go_upto_if 58 with fail
  go_cut [] (fun wx=>Hid (∃ lt,TV w wx S bw bs xx #[.int .i64 t,.int .i64 v,.bool wrt,.int .i64 fr,.slice eA en ec,.slice mA mn mc,.int .i64 (c1:Int),.slice sA sn sc,.int .i64 ro,.int .i64 le,.int .i64 fi,.int .i64 la] g { g with voted:=vt,led:=lt } sg net∧TInv KO VO LO { g with voted:=vt,led:=lt } h))
  case first =>
   by_cases h4:ro=4
   ·have HLL:=ld (HL.out h4)
    have hle1:=HLL.out.1
    subst h4
    have HCP2:=ld (HCP.out rfl)
    have hlw:bw<wc.heap.size:=block_lt HT.out.at_.wb
    have hlb:b<wc.heap.size:=block_lt (HSA.out _ _ HT.out.at_).blk
    have c8:wc.cell? ⟨bw,8,none⟩=some (.map (some g.mL)):=vw8 HT.out.at_.wb
    have d0:wc.cell? ⟨b,0,none⟩=some (.int .i64 id):=by rw [vs0 (HSA.out _ _ HT.out.at_).blk,hid]
    have r9:wc.cell? ⟨xx,9,none⟩=some (.int .i64 id):=by rw [←hle1];exact cell_block HT.out.r 9 _ rfl
    have lk:∃ z fnd,(Instr.lookup 39 (.map (some g.mL)) (.int .i64 t) true).run Tryz.prog wc=.ok (.tuple #[.int .i64 z,.bool fnd]) wc∧((fnd=false)∨(fnd=true∧z=id)):=by
     have:=HT.out.at_.led.look_ok KI Tryz.underlying39 t hti _ zero3
     cases hq:kget g.led t with
     | none=>simp only [hq] at this;exact ⟨0,false,this,.inl rfl⟩
     | some u=>simp only [hq] at this;exact ⟨u,true,this,.inr ⟨rfl,HLL.out.2.2 _ (HVT.out.l _ _ hq)⟩⟩
    obtain ⟨z,fnd,hlk,hz⟩:=lk
    clear hle1
    rcases hz with rfl | ⟨rfl,rfl⟩
    ·go_upto_region 10 with (fail)
     go_quiet (fail)
     go_upto_region 12 with (fail)
     generalize hW2:wc.drewN _=W2
     have HT2:Hid (TV w W2 S bw bs xx _ g { g with voted:=vt } sg net):=ld (hW2▸HT.out.drewN _)
     clear hlk hW2 c8 d0 r9 r8 hlx hlw hlb
     have hlw:bw<W2.heap.size:=block_lt HT2.out.at_.wb
     have hlb:b<W2.heap.size:=block_lt (HSA.out _ _ HT2.out.at_).blk
     have c8:W2.cell? ⟨bw,8,none⟩=some (.map (some g.mL)):=vw8 HT2.out.at_.wb
     have d0:W2.cell? ⟨b,0,none⟩=some (.int .i64 id):=by rw [vs0 (HSA.out _ _ HT2.out.at_).blk,hid]
     obtain ⟨W3,hrun,hm3,hg3,hs3⟩:=(HT2.out.at_.drewN 1).led.put KI Tryz.underlying39 t hti id
     have hrun':(Instr.mapUpdate 39 (.map (some g.mL)) (.int .i64 t) (.int .i64 id)).run Tryz.prog W2.drew=.ok () W3:=hrun
     go_region
     have HT3:=ld ((HT2.out.drewN 1).reled rfl hg3 hm3)
     clear hrun hrun' hm3 hg3 hs3 hlw hlb c8 d0
     have hlb:b<W3.heap.size:=block_lt (HSA.out _ _ HT3.out.at_).blk
     have d10:W3.cell? ⟨b,10,none⟩=some (.int .i64 x.ro):=vs10 (HSA.out _ _ HT3.out.at_).blk
     by_cases hro:x.ro=4
     ·have hrb:(x.ro != 4)=false:=by simpa using hro
      go_wp2_with (fail)
      go_meet
      exact ld ⟨_,HT3.out,HVT.out.putL HLL.out.2.1⟩
     ·have hrb:(x.ro != 4)=true:=by simpa using hro
      have HC:=ld (complete_any bw b i h bs _ sg net S x KO W3 HT3.out.at_ HXI.out.1 HXI.out.2 HVT.out.high HVT.out.le HVT.out.k (HCP2.out hro) hdl)
      go_wp2_with (go_at_call 82;refine HC.out.mono ?_;rintro e w5 ⟨rfl,hb5⟩)
      go_meet
      exact ld ⟨_,HT3.out.below hb5,HVT.out.putL HLL.out.2.1⟩
    ·go_upto_region 10 with (fail)
     go_quiet (fail)
     go_upto_region 12 with (fail)
     generalize hW2:wc.drewN _=W2
     have HT2:Hid (TV w W2 S bw bs xx _ g { g with voted:=vt } sg net):=ld (hW2▸HT.out.drewN _)
     clear hlk hW2 c8 d0 r9 r8 hlx hlw hlb
     have hlw:bw<W2.heap.size:=block_lt HT2.out.at_.wb
     have hlb:b<W2.heap.size:=block_lt (HSA.out _ _ HT2.out.at_).blk
     have c8:W2.cell? ⟨bw,8,none⟩=some (.map (some g.mL)):=vw8 HT2.out.at_.wb
     have d0:W2.cell? ⟨b,0,none⟩=some (.int .i64 z):=by rw [vs0 (HSA.out _ _ HT2.out.at_).blk,hid]
     obtain ⟨W3,hrun,hm3,hg3,hs3⟩:=(HT2.out.at_.drewN 1).led.put KI Tryz.underlying39 t hti z
     have hrun':(Instr.mapUpdate 39 (.map (some g.mL)) (.int .i64 t) (.int .i64 z)).run Tryz.prog W2.drew=.ok () W3:=hrun
     go_region
     have HT3:=ld ((HT2.out.drewN 1).reled rfl hg3 hm3)
     clear hrun hrun' hm3 hg3 hs3 hlw hlb c8 d0
     have hlb:b<W3.heap.size:=block_lt (HSA.out _ _ HT3.out.at_).blk
     have d10:W3.cell? ⟨b,10,none⟩=some (.int .i64 x.ro):=vs10 (HSA.out _ _ HT3.out.at_).blk
     by_cases hro:x.ro=4
     ·have hrb:(x.ro != 4)=false:=by simpa using hro
      go_wp2_with (fail)
      go_meet
      exact ld ⟨_,HT3.out,HVT.out.putL HLL.out.2.1⟩
     ·have hrb:(x.ro != 4)=true:=by simpa using hro
      have HC:=ld (complete_any bw b i h bs _ sg net S x KO W3 HT3.out.at_ HXI.out.1 HXI.out.2 HVT.out.high HVT.out.le HVT.out.k (HCP2.out hro) hdl)
      go_wp2_with (go_at_call 82;refine HC.out.mono ?_;rintro e w5 ⟨rfl,hb5⟩)
      go_meet
      exact ld ⟨_,HT3.out.below hb5,HVT.out.putL HLL.out.2.1⟩
   ·have h4b:(ro==4)=false:=by simpa using h4
    go_wp2_with (fail)
    go_meet
    exact ld ⟨g.led,HT.out,HVT.out⟩
  case rest =>
   obtain ⟨lt,hT2,hlt2⟩:=hcut.out
   have HT3:=ld hT2
   have HLT:=ld hlt2
   clear hcut hT2 hlt2 r8 hlx HT HVT
   have d8:wc.cell? ⟨b,8,none⟩=some (.int .i64 (c0:Int)):=by rw [←hcm];exact vs8 (HSA.out _ _ HT3.out.at_).blk
   have r6:wc.cell? ⟨xx,6,none⟩=some (.int .i64 (c1:Int)):=cell_block HT3.out.r 6 _ rfl
   have hlb:b<wc.heap.size:=block_lt (HSA.out _ _ HT3.out.at_).blk
   have hlx:xx<wc.heap.size:=block_lt HT3.out.r
   have hc10:c1≤100000:=by omega
   have hh1:=HLT.out.le
   have HCM:=ld hcm
   clear hcm
   have w1:IntKind.i64.wrap ((c0:Int)+1)=(c0:Int)+1:=IntWalk.i64_in _ (by omega)
   have hcb2:decide (c1<c0)=false:=by simp;omega
   go_upto_region 15 with (fail)
   go_quiet (fail)
   have HT4:=fun n=>HT3.out.drewN n
   have hcb:decide ((c1:Int)<(c0:Int))=false:=by simp;omega
   go_wp2_with (fail)
   try rw [hcb2]
   generalize hW4:wc.drewN _=W4
   have HT5:Hid (TV w W4 S bw bs xx #[.int .i64 t,.int .i64 v,.bool wrt,.int .i64 fr,.slice eA en ec,.slice mA mn mc,.int .i64 (c1:Int),.slice sA sn sc,.int .i64 ro,.int .i64 le,.int .i64 fi,.int .i64 la] g { g with voted:=vt,led:=lt } sg net):=ld (by
    rw [←hW4];exact HT4 _)
   clear HT4 HT3 hW4 d8 r6 hlb hlx w1
   go_loopw [13] (fun i wr=>∃ (k h2:Nat) (g2:VG),i=.int .i64 ((k:Int)+1)∧c0≤k∧k≤c1∧k≤h2∧h≤h2∧g2={ g with voted:=vt,led:=lt,known:=g2.known,tm:=g2.tm,high:=g2.high }∧TV w wr S bw bs xx #[.int .i64 t,.int .i64 v,.bool wrt,.int .i64 fr,.slice eA en ec,.slice mA mn mc,.int .i64 (c1:Int),.slice sA sn sc,.int .i64 ro,.int .i64 le,.int .i64 fi,.int .i64 la] g g2 sg net∧TInv KO VO LO g2 h2) (fun i _=>c1+1-(intOf i).toNat)
   case atStart=>exact ⟨c0,h,_,rfl,Nat.le_refl _,hcc,hch,Nat.le_refl _,rfl,HT5.out,HLT.out⟩
   case round =>
    obtain ⟨k,h2,g2,rfl,hk0,hk1,hkh,hh2,hg2,hT,hKI⟩:=hrel
    have HT:=ld hT
    have HKI:=ld hKI
    have HG2:=ld hg2
    have gK:Hid (g2.mK=g.mK):=ld (by rw [hg2])
    have gT:Hid (g2.mT=g.mT):=ld (by rw [hg2])
    clear hT hKI HT5 HLT hg2
    have hlx:xx<wr.heap.size:=block_lt HT.out.r
    have r6:wr.cell? ⟨xx,6,none⟩=some (.int .i64 (c1:Int)):=cell_block HT.out.r 6 _ rfl
    by_cases hlt:k<c1
    ·obtain ⟨p,hp⟩:∃ p,x.dl[k]?=some p:=⟨_,List.getElem?_eq_getElem (by omega)⟩
     have HP:=ld hp
     have HKN:=ld (HK2.out k (con p) hlt (by rw [List.getElem?_map,hp];rfl))
     have HKL:=ld (HK1.out k hlt)
     have hc1':(k:Int)+1≤c1:=by omega
     clear hp
     go_wp2_with (fail)
     refine (entry_at b x S k p wr (HSA.out _ _ HT.out.at_) HT.out.at_.bd HP.out hdl).mono ?_
     rintro e w2 ⟨rfl,hb2⟩
     unfold encK
     have hB2:Below wr.heap.size wr (w2.alloc (.cells #[.int .i64 p.1.idx,.int .i64 p.1.term,.slice p.1.A p.1.n p.1.c] 67)):=hb2.alloc hb2.size _
     have HT2:=ld (HT.out.below hB2)
     have hlw2:bw<(w2.alloc (.cells #[.int .i64 p.1.idx,.int .i64 p.1.term,.slice p.1.A p.1.n p.1.c] 67)).heap.size:=block_lt HT2.out.at_.wb
     have hlb2:b<(w2.alloc (.cells #[.int .i64 p.1.idx,.int .i64 p.1.term,.slice p.1.A p.1.n p.1.c] 67)).heap.size:=block_lt (HSA.out _ _ HT2.out.at_).blk
     have c10:(w2.alloc (.cells #[.int .i64 p.1.idx,.int .i64 p.1.term,.slice p.1.A p.1.n p.1.c] 67)).cell? ⟨bw,10,none⟩=some (.map (some g2.mK)):=cell_block HT2.out.at_.wb 10 _ rfl
     have hok:okI ((k:Int)+1):=by unfold okI;omega
     have lkk:=HT2.out.at_.known.look_ok KI Tryz.underlying41 ((k:Int)+1) hok _ zero67
     by_cases hkk:k<h2
     ·obtain ⟨q,τ,hq,hτ,hKO⟩:=HKI.out.k k hkk
      have hcon:con p=con q:=by
       have:=HKL.out _ _ hKO
       rw [List.getElem?_map,HP.out] at this
       simpa using this
      simp only [hq] at lkk
      unfold encK at lkk
      have HSL:Hid (∀ W i j,Below (w2.alloc (.cells #[.int .i64 p.1.idx,.int .i64 p.1.term,.slice p.1.A p.1.n p.1.c] 67)).heap.size (w2.alloc (.cells #[.int .i64 p.1.idx,.int .i64 p.1.term,.slice p.1.A p.1.n p.1.c] 67)) W→W.heap[i]?=some (.cells #[.int .i64 p.1.idx,.int .i64 p.1.term,.slice p.1.A p.1.n p.1.c] 67 (0,0))→W.heap[j]?=some (.cells #[.int .i64 q.1.idx,.int .i64 q.1.term,.slice q.1.A q.1.n q.1.c] 67 (0,0)) →
        Calls Tryz.prog 45 #[.slice (some ⟨i,0,none⟩) 1 1,.slice (some ⟨j,0,none⟩) 1 1] W fun e w'=>e=.returned (.bool true)∧∃ k,w'=W.drewN k):=ld (fun W i j hW hi hj=>by
       have hA:=HT2.out.at_.below hW
       have hq':=hA.kb _ (kget_mem hq)
       have hp':=(HSA.out _ _ hA).dl.each _ (List.mem_of_getElem? HP.out)
       exact sameLog_yes _ _ 1 1 1 1 [p] [q] W (ents_one' hi hp'.1 hA.bd (block_lt hi) hp'.2.1 hp'.2.2) rfl (ents_one' hj hq'.1 hA.bd (block_lt hj) hq'.2.1 hq'.2.2) rfl (by simp) (by simp [hcon]))
      have HQ:=ld (And.intro hq (And.intro hcon (And.intro hτ hKO)))
      clear hq hcon hτ hKO
      go_wp2_with (fail)
      refine (HSL.out _ _ _ ((((Below.refl _ _).alloc (Nat.le_refl _) _).alloc (by simp) _).alloc (by simp) _) ?_ ?_).mono ?_
      ·have:=block_alloc (World.alloc_at ((w2.alloc (.cells #[.int .i64 p.1.idx,.int .i64 p.1.term,.slice p.1.A p.1.n p.1.c] 67)).alloc (.cells #[.int .i64 q.1.idx,.int .i64 q.1.term,.slice q.1.A q.1.n q.1.c] 67)) (.cells #[.int .i64 p.1.idx,.int .i64 p.1.term,.slice p.1.A p.1.n p.1.c] 67)) (.cells #[.int .i64 q.1.idx,.int .i64 q.1.term,.slice q.1.A q.1.n q.1.c] 67)
       simp only [World.alloc_size] at this
       exact this
      ·have:=World.alloc_at (((w2.alloc (.cells #[.int .i64 p.1.idx,.int .i64 p.1.term,.slice p.1.A p.1.n p.1.c] 67)).alloc (.cells #[.int .i64 q.1.idx,.int .i64 q.1.term,.slice q.1.A q.1.n q.1.c] 67)).alloc (.cells #[.int .i64 p.1.idx,.int .i64 p.1.term,.slice p.1.A p.1.n p.1.c] 67)) (.cells #[.int .i64 q.1.idx,.int .i64 q.1.term,.slice q.1.A q.1.n q.1.c] 67)
       simp only [World.alloc_size] at this
       exact this
      rintro e w6 ⟨rfl,nq6,rfl⟩
      go_upto_region 27 with (fail)
      have hB7:Below (w2.alloc (.cells #[.int .i64 p.1.idx,.int .i64 p.1.term,.slice p.1.A p.1.n p.1.c] 67)).heap.size (w2.alloc (.cells #[.int .i64 p.1.idx,.int .i64 p.1.term,.slice p.1.A p.1.n p.1.c] 67)) (((((w2.alloc (.cells #[.int .i64 p.1.idx,.int .i64 p.1.term,.slice p.1.A p.1.n p.1.c] 67)).alloc (.cells #[.int .i64 q.1.idx,.int .i64 q.1.term,.slice q.1.A q.1.n q.1.c] 67)).alloc (.cells #[.int .i64 p.1.idx,.int .i64 p.1.term,.slice p.1.A p.1.n p.1.c] 67)).alloc (.cells #[.int .i64 q.1.idx,.int .i64 q.1.term,.slice q.1.A q.1.n q.1.c] 67)).drewN nq6):=below_drewN' ((((Below.refl _ _).alloc (Nat.le_refl _) _).alloc (by simp) _).alloc (by simp) _) _
      clear HSL
      generalize ((((w2.alloc (.cells #[.int .i64 p.1.idx,.int .i64 p.1.term,.slice p.1.A p.1.n p.1.c] 67)).alloc (.cells #[.int .i64 q.1.idx,.int .i64 q.1.term,.slice q.1.A q.1.n q.1.c] 67)).alloc (.cells #[.int .i64 p.1.idx,.int .i64 p.1.term,.slice p.1.A p.1.n p.1.c] 67)).alloc (.cells #[.int .i64 q.1.idx,.int .i64 q.1.term,.slice q.1.A q.1.n q.1.c] 67)).drewN nq6=W7 at hB7 ⊢
      have hok':=hok
      have HB7:=ld hB7
      have HT7:=ld (HT.out.below (hB2.trans (hB7.mono hB2.size)))
      have hY7:=(hB7.block w2.heap.size (by rw [World.alloc_size];exact Nat.lt_succ_self _)).trans (World.alloc_at w2 (.cells #[.int .i64 p.1.idx,.int .i64 p.1.term,.slice p.1.A p.1.n p.1.c] 67))
      obtain ⟨y,hy⟩:∃ y,y=w2.heap.size:=⟨_,rfl⟩
      rw [←hy] at hY7
      rw [←hy]
      clear hy
      have hly:y<W7.heap.size:=block_lt hY7
      have y0:W7.cell? ⟨y,0,none⟩=some (.int .i64 p.1.idx):=cell_block hY7 0 _ rfl
      have y1:W7.cell? ⟨y,1,none⟩=some (.int .i64 p.1.term):=cell_block hY7 1 _ rfl
      have y2:W7.cell? ⟨y,2,none⟩=some (.slice p.1.A p.1.n p.1.c):=cell_block hY7 2 _ rfl
      clear c10 lkk hlw2 hlb2 hB7 HB7 hlx r6
      have hlw7:bw<W7.heap.size:=block_lt HT7.out.at_.wb
      have c10:W7.cell? ⟨bw,10,none⟩=some (.map (some g2.mK)):=cell_block HT7.out.at_.wb 10 _ rfl
      obtain ⟨W8,hrun,hm8,hg8,hs8⟩:=(HT7.out.at_.drewN 1).known.put KI Tryz.underlying41 ((k:Int)+1) hok p
      have hrun':(Instr.mapUpdate 41 (.map (some g2.mK)) (.int .i64 ((k:Int)+1)) (.agg #[.int .i64 p.1.idx,.int .i64 p.1.term,.slice p.1.A p.1.n p.1.c])).run Tryz.prog W7.drew=.ok () W8:=hrun
      go_region
      have HT8:=ld ((HT7.out.drewN 1).reknown gK.out hg8 hm8 (kput_all (HT7.out.drewN 1).at_.kb ((HSA.out _ _ (HT7.out.drewN 1).at_).dl.each _ (List.mem_of_getElem? HP.out))))
      clear hrun hrun' hm8 hg8 hs8 hlw7 c10 y0 y1 y2 hY7 hly
      have hlw8:bw<W8.heap.size:=block_lt HT8.out.at_.wb
      have c12:W8.cell? ⟨bw,12,none⟩=some (.int .i64 (h2:Int)):=by rw [←HKI.out.high];exact cell_block HT8.out.at_.wb 12 _ rfl
      have hf8:=frozen_block HT8.out.at_.wb
      have HT9:=ld (HT8.out.rehigh (h2:Int))
      have hτ:=HQ.out.2.2.1
      have ltt:=HT9.out.at_.tm.look KI Tryz.underlying39 ((k:Int)+1) hok _ zero3
      simp only [hτ] at ltt
      clear hτ
      have c11:(W8.setCell ⟨bw,12,none⟩ (.int .i64 (h2:Int))).cell? ⟨bw,11,none⟩=some (.map (some g2.mT)):=cell_block HT9.out.at_.wb 11 _ rfl
      have hmx:¬ ((h2:Int)<(k:Int)+1):=by omega
      have hmx2:¬ (h2<k+1):=by omega
      have hlw9:bw<(W8.setCell ⟨bw,12,none⟩ (.int .i64 (h2:Int))).heap.size:=block_lt HT9.out.at_.wb
      have HI9:Hid (TInv KO VO LO { g2 with known:=kput g2.known ((k:Int)+1) p,high:=(h2:Int) } h2):=ld (by
       have:=HKI.out.putK (p:=p) hkk (fun q' τ' h1 h3=>by rw [HQ.out.1] at h1;injection h1 with h1;subst h1;rw [HQ.out.2.1];exact h3)
       exact ⟨rfl,this.le,this.v,this.l,this.k,this.n⟩)
      by_cases htt:t<τ
      ·obtain ⟨W10,hrun,hm10,hg10,hs10⟩:=HT9.out.at_.tm.put KI Tryz.underlying39 ((k:Int)+1) hok t
       have hrun':(Instr.mapUpdate 39 (.map (some g2.mT)) (.int .i64 ((k:Int)+1)) (.int .i64 t)).run Tryz.prog (W8.setCell ⟨bw,12,none⟩ (.int .i64 (h2:Int)))=.ok () W10:=hrun
       go_wp2_with (fail)
       go_roundw
       case rel =>
        have e2:=HG2.out
        refine ⟨k+1,h2,_,by go_num,by omega,by omega,by omega,hh2,?_,HT9.out.retm gT.out hg10 hm10,HI9.out.putT hkk fun q' h1=>?_⟩
        ·rw [e2]
        ·have h1':kget (kput g2.known ((k:Int)+1) p) ((k:Int)+1)=some q':=h1
         rw [kget_kput,if_pos rfl] at h1'
         injection h1' with h1'
         subst h1'
         exact HKN.out
       case measure=>simp [intOf];omega
      ·go_wp2_with (fail)
       go_roundw
       case rel =>
        have e2:=HG2.out
        refine ⟨k+1,h2,_,by go_num,by omega,by omega,by omega,hh2,?_,HT9.out,HI9.out⟩
        rw [e2]
       case measure=>simp [intOf];omega
     ·have hkh2:h2=k:=by omega
      subst hkh2
      have hnk:=HKI.out.n ((h2:Int)+1) (by omega)
      simp only [hnk] at lkk
      clear hnk
      go_upto_region 27 with (fail)
      have hB7:Below (w2.alloc (.cells #[.int .i64 p.1.idx,.int .i64 p.1.term,.slice p.1.A p.1.n p.1.c] 67)).heap.size (w2.alloc (.cells #[.int .i64 p.1.idx,.int .i64 p.1.term,.slice p.1.A p.1.n p.1.c] 67)) ((w2.alloc (.cells #[.int .i64 p.1.idx,.int .i64 p.1.term,.slice p.1.A p.1.n p.1.c] 67)).alloc (.cells #[.int .i64 0,.int .i64 0,.slice none 0 0] 67)):=(Below.refl _ _).alloc (Nat.le_refl _) _
      generalize (w2.alloc (.cells #[.int .i64 p.1.idx,.int .i64 p.1.term,.slice p.1.A p.1.n p.1.c] 67)).alloc (.cells #[.int .i64 0,.int .i64 0,.slice none 0 0] 67)=W7 at hB7 ⊢
      have hok':=hok
      have HB7:=ld hB7
      have HT7:=ld (HT.out.below (hB2.trans (hB7.mono hB2.size)))
      have hY7:=(hB7.block w2.heap.size (by rw [World.alloc_size];exact Nat.lt_succ_self _)).trans (World.alloc_at w2 (.cells #[.int .i64 p.1.idx,.int .i64 p.1.term,.slice p.1.A p.1.n p.1.c] 67))
      obtain ⟨y,hy⟩:∃ y,y=w2.heap.size:=⟨_,rfl⟩
      rw [←hy] at hY7
      rw [←hy]
      clear hy
      have hly:y<W7.heap.size:=block_lt hY7
      have y0:W7.cell? ⟨y,0,none⟩=some (.int .i64 p.1.idx):=cell_block hY7 0 _ rfl
      have y1:W7.cell? ⟨y,1,none⟩=some (.int .i64 p.1.term):=cell_block hY7 1 _ rfl
      have y2:W7.cell? ⟨y,2,none⟩=some (.slice p.1.A p.1.n p.1.c):=cell_block hY7 2 _ rfl
      clear c10 lkk hlw2 hlb2 hB7 HB7 hlx r6
      have hlw7:bw<W7.heap.size:=block_lt HT7.out.at_.wb
      have c10:W7.cell? ⟨bw,10,none⟩=some (.map (some g2.mK)):=cell_block HT7.out.at_.wb 10 _ rfl
      obtain ⟨W8,hrun,hm8,hg8,hs8⟩:=(HT7.out.at_.drewN 1).known.put KI Tryz.underlying41 ((h2:Int)+1) hok p
      have hrun':(Instr.mapUpdate 41 (.map (some g2.mK)) (.int .i64 ((h2:Int)+1)) (.agg #[.int .i64 p.1.idx,.int .i64 p.1.term,.slice p.1.A p.1.n p.1.c])).run Tryz.prog W7.drew=.ok () W8:=hrun
      go_region
      have HT8:=ld ((HT7.out.drewN 1).reknown gK.out hg8 hm8 (kput_all (HT7.out.drewN 1).at_.kb ((HSA.out _ _ (HT7.out.drewN 1).at_).dl.each _ (List.mem_of_getElem? HP.out))))
      clear hrun hrun' hm8 hg8 hs8 hlw7 c10 y0 y1 y2 hY7 hly
      have hlw8:bw<W8.heap.size:=block_lt HT8.out.at_.wb
      have c12:W8.cell? ⟨bw,12,none⟩=some (.int .i64 (h2:Int)):=by rw [←HKI.out.high];exact cell_block HT8.out.at_.wb 12 _ rfl
      have hf8:=frozen_block HT8.out.at_.wb
      have HT9:=ld (HT8.out.rehigh ((h2:Int)+1))
      obtain ⟨W10,hrun,hm10,hg10,hs10⟩:=HT9.out.at_.tm.put KI Tryz.underlying39 ((h2:Int)+1) hok t
      have hrun':(Instr.mapUpdate 39 (.map (some g2.mT)) (.int .i64 ((h2:Int)+1)) (.int .i64 t)).run Tryz.prog (W8.setCell ⟨bw,12,none⟩ (.int .i64 ((h2:Int)+1)))=.ok () W10:=hrun
      have c11:(W8.setCell ⟨bw,12,none⟩ (.int .i64 ((h2:Int)+1))).cell? ⟨bw,11,none⟩=some (.map (some g2.mT)):=cell_block HT9.out.at_.wb 11 _ rfl
      have hmx:(h2:Int)<(h2:Int)+1:=by omega
      have hlw9:bw<(W8.setCell ⟨bw,12,none⟩ (.int .i64 ((h2:Int)+1))).heap.size:=block_lt HT9.out.at_.wb
      go_wp2_with (fail)
      go_roundw
      case rel =>
       have e2:=HG2.out
       refine ⟨h2+1,h2+1,_,by go_num,by omega,by omega,by omega,by omega,?_,HT9.out.retm gT.out hg10 hm10,HKI.out.new HKN.out (by omega)⟩
       rw [e2]
      case measure=>simp [intOf];omega
    ·have hc1':¬ ((k:Int)+1≤c1):=by omega
     have hkc:k=c1:=by omega
     have hlb:b<wr.heap.size:=block_lt (HSA.out _ _ HT.out.at_).blk
     have hfb:=frozen_block (HSA.out _ _ HT.out.at_).blk
     have d9:wr.cell? ⟨b,9,none⟩=some (.int .i64 x.most):=vs9 (HSA.out _ _ HT.out.at_).blk
     have d8:wr.cell? ⟨b,8,none⟩=some (.int .i64 x.cm):=vs8 (HSA.out _ _ HT.out.at_).blk
     have HTa:=ld (HT.out.recm HXI.out.1 (c1:Int))
     go_upto_region 32 with (fail)
     go_region
     generalize (if x.most<(c1:Int) then (c1:Int) else x.most)=z
     go_wp2
     go_ret
     have h9:=(HTa.out.remost HXI.out.1 z).drewN 1
     rw [setS_setS,setS_same] at h9
     have e2:=HG2.out
     exact ⟨rfl,_,h2,z,⟨h9.at_,by rw [e2],HKI.out,by omega,hh2,h9.chg⟩⟩
theorem MapG.entry {P:Program} {k e t:TypeId} {α β:Type} {kenc:α→Value} {venc:β→Value} {ok:α→Prop} {w:World} {b:Nat} {l:List (α×β)} [DecidableEq α] (K:KeyEnc P k kenc ok) (h:MapG P k kenc venc w b l) (ht:P.underlying t=some (.map k e)) (x:α) (hx:ok x) (v:β) (z:Value) (hz:∀ w,(zeroValue e).run P w=.ok z w) :
  ∃ v0 st w1 w2,(Instr.mapEntry t (.map (some b)) (kenc x)).run P w=.ok (.tuple #[v0,.int .i64 st]) w1∧(Instr.entryStore t (.map (some b)) (.int .i64 st) (venc v)).run P w1=.ok () w2∧MapG P k kenc venc w2 b (kput l x v)∧w.grownBy w1 (some b)∧w.grownBy w2 (some b)∧w1.heap.size=w.heap.size∧w2.heap.size=w.heap.size:=by
 obtain ⟨kl,hkey⟩:=K.reads x hx
 have hnd:=h.nodup
 obtain ⟨es,c,hb,hs,hks,hl⟩:=h.ex
 have gr:∀ o:Obj,w.grownBy (ChangeMaps.setBlock w b o) (some b):=fun o=>⟨rfl,rfl,rfl,by simp [ChangeMaps.setBlock],fun i _ hi=>by
  simp only [ChangeMaps.setBlock];rw [Array.getElem?_setIfInBounds_ne (fun e=>hi (by rw [e]))]⟩
 have at_:∀ o:Obj,(ChangeMaps.setBlock w b o).heap[b]?=some o:=fun o=>by
  simp only [ChangeMaps.setBlock];rw [Array.getElem?_setIfInBounds_self_of_lt (block_lt hb)]
 have sz:∀ o:Obj,(ChangeMaps.setBlock w b o).heap.size=w.heap.size:=fun o=>by simp [ChangeMaps.setBlock]
 have twice:∀ o o':Obj,ChangeMaps.setBlock (ChangeMaps.setBlock w b o) b o'=ChangeMaps.setBlock w b o':=fun o o'=>by
  simp [ChangeMaps.setBlock]
 obtain ⟨w2,hput,hm,hg2,hs2⟩:=h.put K ht x hx v
 rcases K.keyed.find w hkey es.toList hks with ⟨h1,h2⟩ | ⟨j,e0,h1,h2,h3⟩
 ·refine ⟨z,c,ChangeMaps.setBlock w b (.map (es.push ⟨kenc x,z,c⟩) (c+1)),w2,?_,?_,hm,gr _,hg2,sz _,hs2⟩
  ·simp [Instr.mapEntry,run_underlying ht,MapKept.run_getObj_map hb,K.keyed.check w false hkey,h1,hz,MapKept.run_setObj_map _ hb,Result.andThen,ChangeMaps.setBlock,goInt]
  ·have e2:w2=ChangeMaps.setBlock w b (.map (es.push ⟨kenc x,venc v,c⟩) (c+1)):=by
    have:(Instr.mapUpdate t (.map (some b)) (kenc x) (venc v)).run P w=.ok () (ChangeMaps.setBlock w b (.map (es.push ⟨kenc x,venc v,c⟩) (c+1))):=by
     simp [Instr.mapUpdate,run_underlying ht,MapKept.run_getObj_map hb,K.keyed.check w false hkey,h1,MapKept.run_setObj_map _ hb,Result.andThen,ChangeMaps.setBlock]
    rw [this] at hput
    injection hput with _ e
    exact e.symm
   have hidx:(es.push ⟨kenc x,z,c⟩).findIdx? (fun e=>((e.born:Nat):Int)==((c:Nat):Int))=some es.size:=by
    rw [WideElems.findIdx_arr]
    have:=WideElems.findIdx_born (l:=(es.push ⟨kenc x,z,c⟩).toList) (j:=es.size) (e0:=⟨kenc x,z,c⟩) (by
     simp only [Array.toList_push,List.map_append,List.map_cons,List.map_nil]
     refine List.nodup_append.2 ⟨hs.2.1,by simp,fun a ha c' hc e1=>?_⟩
     simp only [List.mem_singleton] at hc
     obtain ⟨y,hy,rfl⟩:=List.mem_map.1 ha
     have:=hs.1 y hy
     omega) (by simp)
    exact this
   have hmod:(es.push ⟨kenc x,z,c⟩).modify es.size (fun e=>{ e with val:=venc v })=es.push ⟨kenc x,venc v,c⟩:=by
    apply Array.ext'
    rw [Array.toList_modify,Array.toList_push,Array.toList_push,←Array.length_toList,WideElems.modify_last]
   rw [e2]
   have hw1:=at_ (.map (es.push ⟨kenc x,z,c⟩) (c+1))
   simp [Instr.entryStore,MapKept.run_getObj_map hw1,asInt,asIntOf,hidx,hmod,MapKept.run_setObj_map _ hw1,Result.andThen]
   exact twice _ _
 ·have hj:es[j]?=some e0:=by simpa using h2
  have hsame:es.modify j (fun e=>{ e with key:=kenc x })=es:=by
   apply Array.ext'
   rw [Array.toList_modify,ChangeMaps.modify_eq_set _ _ _ _ h2]
   have:({ e0 with key:=kenc x }:MapEntry)=e0:=by rw [←h3]
   rw [this]
   exact WideElems.set_self _ _ _ h2
  refine ⟨e0.val,e0.born,ChangeMaps.setBlock w b (.map es c),w2,?_,?_,hm,gr _,hg2,sz _,hs2⟩
  ·simp [Instr.mapEntry,run_underlying ht,MapKept.run_getObj_map hb,K.keyed.check w false hkey,h1,hj,h3,K.keyed.stays w hkey,hsame,MapKept.run_setObj_map _ hb,Result.andThen,ChangeMaps.setBlock,goInt]
  ·have e2:w2=ChangeMaps.setBlock w b (.map (es.modify j (fun e'=>{ e' with key:=kenc x,val:=venc v })) c):=by
    have:(Instr.mapUpdate t (.map (some b)) (kenc x) (venc v)).run P w=.ok () (ChangeMaps.setBlock w b (.map (es.modify j (fun e'=>{ e' with key:=kenc x,val:=venc v })) c)):=by
     simp [Instr.mapUpdate,run_underlying ht,MapKept.run_getObj_map hb,K.keyed.check w false hkey,h1,hj,h3,K.keyed.stays w hkey,MapKept.run_setObj_map _ hb,Result.andThen,ChangeMaps.setBlock]
    rw [this] at hput
    injection hput with _ e
    exact e.symm
   have hidx:es.findIdx? (fun e=>((e.born:Nat):Int)==((e0.born:Nat):Int))=some j:=by
    rw [WideElems.findIdx_arr]
    exact WideElems.findIdx_born hs.2.1 h2
   have hmod:es.modify j (fun e=>{ e with val:=venc v })=es.modify j (fun e'=>{ e' with key:=kenc x,val:=venc v }):=by
    apply Array.ext'
    rw [Array.toList_modify,Array.toList_modify,ChangeMaps.modify_eq_set _ _ _ _ h2,ChangeMaps.modify_eq_set _ _ _ _ h2,←h3]
   rw [e2]
   have hw1:=at_ (.map es c)
   simp [Instr.entryStore,MapKept.run_getObj_map hw1,asInt,asIntOf,hidx,hmod,MapKept.run_setObj_map _ hw1,Result.andThen]
   exact twice _ _
end Go.Proofs.YtocogcgnahbpkaaGreat
