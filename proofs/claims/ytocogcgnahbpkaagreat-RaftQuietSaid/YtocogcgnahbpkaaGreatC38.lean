import Derived.Test.YtocogcgnahbpkaaGreatC11
import Derived.Test.YtocogcgnahbpkaaGreatC12
import Derived.Test.YtocogcgnahbpkaaGreatC37
namespace Go.Proofs.YtocogcgnahbpkaaGreat
open Go.RowKit
def KOg (n:Nat) (gh:Rf.Gh) (i:Nat) (e:E) (τ:Int):Prop:=∃ (y:Rf.Ent) (u:Nat),e=⟨(i:Int)+1,y.term,y.data⟩∧τ=u∧Rf.KnownOK n gh (i+1) y u
def VOg (gh:Rf.Gh) (k:Int×Int) (v:Int):Prop:=∃ i t:Nat,k=((i:Int),(t:Int))∧v=gh.voted t i∧gh.voted t i≠0
def LOg (gh:Rf.Gh) (t v:Int):Prop:=∃ u:Nat,t=u∧v=gh.lid u∧gh.lid u≠0
theorem TInv.ext {n:Nat} {gh gh':Rf.Gh} {nd nd':Nat→Rf.Nd} {g:VG} {h:Nat} (k:TInv (KOg n gh) (VOg gh) (LOg gh) g h) (e:Rf.Ext nd nd' gh gh') (hL:∀ t q,gh.ack t q≤(gh.llog t).length):TInv (KOg n gh') (VOg gh') (LOg gh') g h :=
 ⟨k.high,k.le,fun x v hv=>by
  obtain ⟨i,t,h1,h2,h3⟩:=k.v x v hv
  have:=e.voted t i h3
  exact ⟨i,t,h1,by rw [this];exact h2,by rw [this];exact h3⟩,fun t v hv=>by
  obtain ⟨u,h1,h2,h3⟩:=k.l t v hv
  have:=e.lid u h3
  exact ⟨u,h1,by rw [this];exact h2,by rw [this];exact h3⟩,fun i hi=>by
  obtain ⟨q,τ,h1,h2,y,u,h3,h4,h5⟩:=k.k i hi
  exact ⟨q,τ,h1,h2,y,u,h3,h4,h5.ext e hL (Nat.le_refl _)⟩,k.n⟩
theorem numb0_get (l:List Rf.Ent) (j:Nat):(numb 0 l)[j]?=(l[j]?).map fun e=>(⟨(j:Int)+1,e.term,e.data⟩:E):=by
 rw [numb_get];simp only [Nat.zero_add]
def SeatOK (x:SG) (p:Rf.Nd):Prop:=x.t=p.term∧x.v=p.vote∧x.cm=p.commit∧x.ro=p.role∧x.le=p.leader∧x.dl.map con=numb 0 p.log
structure CW (w:World) (S:Nat→Prop) (B bw:Nat) (bs:List Nat) (g:VG) (sg:Nat→SG) (net:List (MR×List (LE×List Int))) (Fs:Nat→Nat→Prop) (h:Nat) (cf:Rf.Cfg) (K:Nat) (ws:Rf.Wd) (gh:Rf.Gh):Prop where
 at_:VAt w S bw bs g sg net
 cfg:g.n=cf.n∧g.L=cf.least∧g.Mo=cf.most∧g.Bt=cf.beat∧g.Ba=cf.batch
 node:∀ i,i<cf.n→IdleAt w (Fs i) (sg (i+1)).bn cf (ws.nd (i+1))
 apart:∀ i,i<cf.n→∀ j,Fs i j→¬ S j∧¬ g.mut bw bs j∧∀ k,k<cf.n→k≠i→¬ Fs k j
 base:(∀ j,g.mut bw bs j→B≤j)∧∀ i,i<cf.n→∀ j,Fs i j→B≤j
 seat:∀ i,i<cf.n→SeatOK (sg (i+1)) (ws.nd (i+1))
 net:net.map pmOf=ws.net.map pmR
 inv:TInv (KOg cf.n gh) (VOg gh) (LOg gh) g h
 cmh:∀ i,i<cf.n→(ws.nd (i+1)).commit≤h
 cok:Rf.CfgOK cf
 ok:Rf.Ok cf K ws gh
 h3:Rf.H3 ws.net
 tame:∀ i,i<cf.n→Rf.Tame cf (ws.nd (i+1))
 nm:Rf.Nms K ws.net
 out:∀ p,¬ (1≤p∧p≤cf.n)→(ws.nd p).log=[]
def CWx (w:World) (B bw:Nat) (bs:List Nat) (cf:Rf.Cfg) (K:Nat) (calm:Bool) (ss:Option Addr×Nat) (ws:Rf.Wd) (gh:Rf.Gh):Prop:=∃ S g sg net Fs h,CW w S B bw bs g sg net Fs h cf K ws gh∧g.calm=calm∧(g.sA,g.sc)=ss
def Fr (g:VG) (bw:Nat) (bs:List Nat) (Fs:Nat→Nat→Prop) (n:Nat) (j:Nat):Prop:=g.mut bw bs j∨∃ k,k<n∧Fs k j
def CWf (R:Nat→Prop) (w:World) (B bw:Nat) (bs:List Nat) (cf:Rf.Cfg) (K:Nat) (calm:Bool) (ss:Option Addr×Nat) (ws:Rf.Wd) (gh:Rf.Gh):Prop:=∃ S g sg net Fs h,CW w S B bw bs g sg net Fs h cf K ws gh∧(g.calm=calm∧(g.sA,g.sc)=ss)∧∀ j,Fr g bw bs Fs cf.n j→R j
theorem CWf.x {R:Nat→Prop} {w:World} {B bw:Nat} {bs:List Nat} {cf:Rf.Cfg} {K:Nat} {calm:Bool} {ss:Option Addr×Nat} {ws:Rf.Wd} {gh:Rf.Gh} (h:CWf R w B bw bs cf K calm ss ws gh):CWx w B bw bs cf K calm ss ws gh:=by
 obtain ⟨S,g,sg,net,Fs,h,h1,h2,_⟩:=h
 exact ⟨S,g,sg,net,Fs,h,h1,h2⟩
theorem CWf.mono {R R':Nat→Prop} {w:World} {B bw:Nat} {bs:List Nat} {cf:Rf.Cfg} {K:Nat} {calm:Bool} {ss:Option Addr×Nat} {ws:Rf.Wd} {gh:Rf.Gh} (h:CWf R w B bw bs cf K calm ss ws gh) (hR:∀ j,R j→R' j):CWf R' w B bw bs cf K calm ss ws gh:=by
 obtain ⟨S,g,sg,net,Fs,h,h1,h2,h3⟩:=h
 exact ⟨S,g,sg,net,Fs,h,h1,h2,fun j hj=>hR j (h3 j hj)⟩
section
variable {w w':World} {S:Nat→Prop} {B bw b i:Nat} {bs:List Nat} {g:VG} {sg:Nat→SG} {net:List (MR×List (LE×List Int))} {Fs:Nat→Nat→Prop} {h:Nat} {cf:Rf.Cfg} {K K':Nat} {ws:Rf.Wd} {gh gh':Rf.Gh} {calm:Bool} {ss:Option Addr×Nat}
theorem CW.len (hC:CW w S B bw bs g sg net Fs h cf K ws gh):bs.length=cf.n:=hC.at_.bl.trans hC.cfg.1
theorem CW.netl (hC:CW w S B bw bs g sg net Fs h cf K ws gh):net.length=ws.net.length:=by
 have:=congrArg List.length hC.net
 rwa [List.length_map,List.length_map] at this
theorem CW.fits (hC:CW w S B bw bs g sg net Fs h cf K ws gh) (hi:i<cf.n):Fits cf (ws.nd (i+1)):=by
 have hc:=hC.cok
 have h1:=hc.n
 have h2:=hc.least
 have h3:=hc.most
 have h4:=hc.beat
 have h5:=hC.ok.bnd.fin (i+1)
 have h6:=hC.ok.bnd.term (i+1)
 have h7:=hC.ok.small
 have h8:=(hC.ok.inv.comm (i+1)).1
 have h9:=hC.ok.inv.ids (i+1)
 have h10:(ws.nd (i+1)).fin=(ws.nd (i+1)).log.length:=rfl
 exact ⟨hc.n,by omega,hc.batch,by rw [h9];omega,by omega,by omega,h8⟩
theorem CW.below (hC:CW w S B bw bs g sg net Fs h cf K ws gh) (hb:Below w.heap.size w w'):CW w' S B bw bs g sg net Fs h cf K ws gh :=
 { hC with at_:=hC.at_.below hb,node:=fun i hi=>(hC.node i hi).keep hb.size fun _ _ hl=>hb.block _ hl }
theorem CW.chgB (hC:CW w S B bw bs g sg net Fs h cf K ws gh) (hc:Chg (Fr g bw bs Fs cf.n) w w') (hB:B≤w.heap.size):Below B w w' :=
 ⟨hc.os,hc.tape,hc.output,hc.size,fun j hj=>hc.keep (by omega) fun hm=>by
  rcases hm with hm | ⟨k,hk,hm⟩
  ·have:=hC.base.1 j hm;omega
  ·have:=hC.base.2 k hk j hm;omega⟩
theorem CW.fresh (hC:CW w S B bw bs g sg net Fs h cf K ws gh) {j:Nat} (hj:w.heap.size≤j):¬ Fr g bw bs Fs cf.n j:=fun hm=>by
 rcases hm with hm | ⟨k,hk,hm⟩
 ·have:=hC.at_.mutLt j hm;omega
 ·have:=(hC.node k hk).bd.1 j hm;omega
theorem CWx.below (hC:CWx w B bw bs cf K calm ss ws gh) (hb:Below w.heap.size w w'):CWx w' B bw bs cf K calm ss ws gh:=by
 obtain ⟨S,g,sg,net,Fs,h,hC,e⟩:=hC
 exact ⟨S,g,sg,net,Fs,h,hC.below hb,e⟩
theorem capd_map {α β:Type} (f:α→β) (l:List α):(capd calm l).map f=capd calm (l.map f):=by
 unfold capd
 split
 ·rfl
 ·rw [List.map_drop,List.length_map]
theorem capd_sub {α:Type} {l:List α} {x:α} (hx:x∈capd calm l):x∈l:=by
 unfold capd at hx
 split at hx
 ·exact hx
 ·exact List.mem_of_mem_drop hx
theorem cw_step (hC:CW w S B bw bs g sg net Fs h cf K ws gh) (hcal:g.calm=calm) (hi:i<cf.n) (hb:bs[i]?=some b) (p':Rf.Nd) (ms:List Rf.Msg) (hok:Rf.Ok cf K' ⟨Rf.setN ws.nd (i+1) p',ws.net++ms⟩ gh') (hext:Rf.Ext ws.nd (Rf.setN ws.nd (i+1) p') gh gh') (hB:B≤w.heap.size)
  (hKK:K≤K') (hh3:Rf.H3 ms) (htame:Rf.Tame cf p') (hnm:Rf.Nms K' ms) (hcc:(ws.nd (i+1)).commit≤p'.commit) (hnl:ws.net.length+ms.length≤1000000000)
  (kind draw:Int) (m0 m1 m2 m3 m4 m5 m6 m7 m8 m9 k12 k13 k14 k15:Value) (hkind:kind=1∨kind=2∨kind=3∨kind=7)
  (hstep:∀ W,Below w.heap.size w W→IdleAt W (Fs i) (sg (i+1)).bn cf (ws.nd (i+1))→Calls Tryz.prog 32 #[.pointer (some ⟨(sg (i+1)).bn,0,none⟩),.agg #[.int .i64 kind,.int .i64 draw,m0,m1,m2,m3,m4,m5,m6,m7,m8,m9,k12,k13,k14,k15]] W fun e w'=>∃ (F' SR:Nat→Prop) (k:Nat) (wr:Bool) (eA:Option Addr) (en ec:Nat) (mA:Option Addr) (mn mc:Nat) (sA:Option Addr) (sn sc:Nat) (fi la:Int),
   e=.returned (.tuple #[.agg #[.int .i64 p'.term,.int .i64 p'.vote,.bool wr,.int .i64 ((k:Int)+1),.slice eA en ec,.slice mA mn mc,.int .i64 p'.commit,.slice sA sn sc,.int .i64 p'.role,.int .i64 p'.leader,.int .i64 fi,.int .i64 la],.int .i64 0])∧StepR W w' (Fs i) F' SR (sg (i+1)).bn cf (ws.nd (i+1)) p' ms k wr eA en ec mA mn mc) :
  Calls Tryz.prog 15 #[.pointer (some ⟨bw,0,none⟩),.pointer (some ⟨b,0,none⟩),.agg #[.int .i64 kind,.int .i64 draw,m0,m1,m2,m3,m4,m5,m6,m7,m8,m9,k12,k13,k14,k15]] w fun e w'=>e=.returned (.tuple #[.int .i64 0,.bool true])∧CWf (fun j=>Fr g bw bs Fs cf.n j∨w.heap.size≤j) w' B bw bs cf K' calm (g.sA,g.sc) ⟨Rf.setN ws.nd (i+1) p',capd calm (ws.net++ms)⟩ gh'∧Chg (Fr g bw bs Fs cf.n) w w':=by
 have hI:=hC.ok.inv
 have hI':=hok.inv
 have hp:(Rf.setN ws.nd (i+1) p') (i+1)=p':=Rf.setN_at _ _ _
 have hid:p'.id=i+1:=by have:=hI'.ids (i+1);simp only at this;rw [hp] at this;exact this
 have hvN:gh'.voted p'.term (i+1)=p'.vote:=by have:=hI'.voteN (i+1);simp only at this;rw [hp] at this;exact this
 have hld:p'.role=4→gh'.lid p'.term=i+1:=fun h4=>by have:=(hI'.lead (i+1) (by simp only;rw [hp];exact h4)).1;simp only at this;rw [hp] at this;exact this
 have hsoft:Rf.Soft cf p':=by have:=hok.soft (i+1);simp only at this;rw [hp] at this;exact this
 have hfin:p'.log.length≤K':=by have:=hok.bnd.fin (i+1);simp only at this;rw [hp] at this;have e:p'.fin=p'.log.length:=rfl;omega
 have hterm:p'.term≤K':=by have:=hok.bnd.term (i+1);simp only at this;rw [hp] at this;omega
 have hfin0:(ws.nd (i+1)).log.length≤K:=by have:=hC.ok.bnd.fin (i+1);have e:(ws.nd (i+1)).fin=(ws.nd (i+1)).log.length:=rfl;omega
 have hsm:=hok.small
 have hsm0:=hC.ok.small
 have hcn:=hC.cok.n
 have htm:(ws.nd (i+1)).term≤p'.term:=by have:=hext.tm (i+1);rw [hp] at this;exact this
 have hapi:=hC.apart i hi
 refine (wstep_ok bw b i bs g sg net S (Fs i) (sg (i+1)) (sg (i+1)).bn cf (ws.nd (i+1)) p' ms kind draw m0 m1 m2 m3 m4 m5 m6 m7 m8 m9 k12 k13 k14 k15 w hC.at_ hb rfl rfl (hC.node i hi) (fun j hj=>⟨(hapi j hj).1,(hapi j hj).2.1⟩) hstep (KOg cf.n gh') (VOg gh') (LOg gh') h (hC.inv.ext hext hI.ackL) hkind (hC.at_.seat i b hb).2 (hC.seat i hi) htm ?_ ?_ ?_ ?_ hcc (hC.cmh i hi) ?_ ?_ ?_ (by omega) ⟨by omega,by omega⟩ (by omega) (by rw [hC.netl];exact hnl) ?_).mono ?_
 ·intro e hv0
  have:=hI.oneVote (i:=i+1) hI' hext (by simp only;rw [hp];exact e) hv0
  simp only at this
  rw [hp] at this
  exact this
 ·intro hv0
  refine ⟨⟨i+1,p'.term,rfl,by rw [hvN],by rw [hvN];exact hv0⟩,?_⟩
  rintro y ⟨i',t',e1,e2,_⟩
  have e3:=congrArg Prod.fst e1
  have e4:=congrArg Prod.snd e1
  simp only at e3 e4
  have e5:i'=i+1:=by omega
  have e6:t'=p'.term:=by omega
  rw [e2,e5,e6,hvN]
 ·intro h4
  have hl:=hld h4
  refine ⟨by rw [hsoft.lead h4,hid],⟨p'.term,rfl,by rw [hl],by omega⟩,?_⟩
  rintro y ⟨u,e1,e2,_⟩
  have e3:u=p'.term:=by omega
  rw [e2,e3,hl]
 ·rintro h4 _ j e τ ⟨y,u,e1,e2,e3⟩ hlt
  have:=hI'.complete (i:=i+1) e3 (by simp only;rw [hp];exact h4) (by simp only;rw [hp];omega)
  simp only at this
  rw [hp,Nat.add_sub_cancel] at this
  rw [numb0_get,this,e1];rfl
 ·have:=(hI'.comm (i+1)).1
  simp only at this
  rw [hp] at this
  exact this
 ·rintro j hj e τ ⟨y,u,e1,e2,e3⟩
  have:=hI'.known (i:=i+1) e3 (by simp only;rw [hp];omega)
  simp only at this
  rw [hp,Nat.add_sub_cancel] at this
  rw [numb0_get,this,e1];rfl
 ·intro j e hj he
  rw [numb0_get] at he
  obtain ⟨y,hy,rfl⟩:=Option.map_eq_some_iff.1 he
  have:=hI'.knows (i:=i+1) (j:=j+1) (x:=y) (by omega) (by simp only;rw [hp];omega) (by simp only;rw [hp,Nat.add_sub_cancel];exact hy)
  simp only at this
  rw [hp] at this
  exact ⟨y,p'.term,rfl,rfl,this⟩
 ·intro m hm
  have:=(hI'.msgs m (List.mem_append.2 (.inr hm))).1.form.len
  omega
 rintro e w' ⟨rfl,S',F',g',h',x',net',hS⟩
 refine ⟨rfl,⟨S',g',setS sg (i+1) x',net',fun k=>if k=i then F' else Fs k,h',?_,⟨hS.same.2.2.2.2.2.1.trans hcal,by rw [hS.same.2.2.2.2.2.2.1,hS.same.2.2.2.2.2.2.2]⟩,fun j hj=>?_⟩,hS.chg.mono fun j hm=>.inl ?_⟩
 ·have hbd:∀ k,k<cf.n→∀ j,Fs k j→j<w.heap.size:=fun k hk=>(hC.node k hk).bd.1
  have hkeep:∀ k,k<cf.n→k≠i→∀ j,Fs k j→w'.heap[j]?=w.heap[j]?:=fun k hk hne j hj=>hS.chg.keep (hbd k hk j hj) fun hm=>hm.elim ((hC.apart k hk j hj).2.2 i hi (fun e=>hne e.symm)) (hC.apart k hk j hj).2.1
  have hxs:∀ k,k≠i→setS sg (i+1) x' (k+1)=sg (k+1):=fun k hk=>by unfold setS;rw [if_neg (by omega)]
  have hns:∀ k,k≠i→(Rf.setN ws.nd (i+1) p') (k+1)=ws.nd (k+1):=fun k hk=>Rf.setN_ne _ _ (by omega)
  refine ⟨hS.at_,?_,fun k hk=>?_,fun k hk j hj=>?_,⟨fun j hj=>?_,fun k hk j hj=>?_⟩,fun k hk=>?_,?_,hS.inv,fun k hk=>?_,hC.cok,hok.sub fun x hx=>capd_sub hx,Rf.H3.sub (hC.h3.append hh3) fun x hx=>capd_sub hx,fun k hk=>?_,Rf.Nms.sub ((hC.nm.more hKK).append hnm) fun x hx=>capd_sub hx,fun q hq=>by simp only;rw [Rf.setN_ne _ _ (by omega)];exact hC.out q hq⟩
  ·have s:=hS.same
   have c:=hC.cfg
   exact ⟨s.1.trans c.1,s.2.1.trans c.2.1,s.2.2.1.trans c.2.2.1,s.2.2.2.1.trans c.2.2.2.1,s.2.2.2.2.1.trans c.2.2.2.2⟩
  ·by_cases hki:k=i
   ·subst hki
    simp only [if_true]
    rw [hp,setS_same,hS.seat.2.1]
    exact hS.idle
   ·simp only [if_neg hki]
    rw [hxs k hki,hns k hki]
    exact (hC.node k hk).keep hS.chg.size fun j hj _=>hkeep k hk hki j hj
  ·by_cases hki:k=i
   ·subst hki
    simp only [if_true] at hj
    refine ⟨(hS.apart j hj).1,(hS.apart j hj).2,fun l hl hne hfl=>?_⟩
    simp only [if_neg hne] at hfl
    rcases hS.fsub' j hj with hf | hf
    ·exact (hC.apart k hk j hf).2.2 l hl hne hfl
    ·have:=hbd l hl j hfl;omega
   ·simp only [if_neg hki] at hj
    have ha:=hC.apart k hk j hj
    have hlt:=hbd k hk j hj
    refine ⟨fun hs=>?_,fun hm=>?_,fun l hl hne hfl=>?_⟩
    ·rcases hS.sub' j hs with h1 | h1
     ·exact ha.1 h1
     ·omega
    ·rcases hS.mu j hm with h1 | h1
     ·exact ha.2.1 h1
     ·omega
    ·by_cases hli:l=i
     ·subst hli
      simp only [if_true] at hfl
      rcases hS.fsub' j hfl with h1 | h1
      ·exact ha.2.2 l hl hne h1
      ·omega
     ·simp only [if_neg hli] at hfl
      exact ha.2.2 l hl hne hfl
  ·rcases hS.mu j hj with h1 | h1
   ·exact hC.base.1 j h1
   ·omega
  ·by_cases hki:k=i
   ·subst hki
    simp only [if_true] at hj
    rcases hS.fsub' j hj with h1 | h1
    ·exact hC.base.2 k hk j h1
    ·omega
   ·simp only [if_neg hki] at hj
    exact hC.base.2 k hk j hj
  ·by_cases hki:k=i
   ·subst hki
    simp only
    rw [hp,setS_same]
    exact hS.seat.2.2
   ·simp only
    rw [hxs k hki,hns k hki]
    exact hC.seat k hk
  ·rw [hS.net,hC.net,hcal,capd_map,List.map_append]
  ·by_cases hki:k=i
   ·subst hki
    simp only
    rw [hp]
    exact hS.hh.2
   ·simp only
    rw [hns k hki]
    exact Nat.le_trans (hC.cmh k hk) hS.hh.1
  ·by_cases hki:k=i
   ·subst hki
    simp only
    rw [hp]
    exact htame
   ·simp only
    rw [hns k hki]
    exact hC.tame k hk
 ·rcases hj with hj | ⟨k,hk,hj⟩
  ·exact (hS.mu j hj).imp_left .inl
  ·by_cases hki:k=i
   ·subst hki
    simp only [if_true] at hj
    exact (hS.fsub' j hj).imp_left fun h1=>.inr ⟨k,hk,h1⟩
   ·simp only [if_neg hki] at hj
    exact .inl (.inr ⟨k,hk,hj⟩)
 ·exact hm.elim (fun hm=>.inr ⟨i,hi,hm⟩) .inl
end
end Go.Proofs.YtocogcgnahbpkaaGreat
