import Derived.Test.YtocogcgnahbpkaaGreatC11
import Derived.Test.YtocogcgnahbpkaaGreatC12
import Derived.Test.YtocogcgnahbpkaaGreatC38
namespace Go.Proofs.YtocogcgnahbpkaaGreat
open Go.RowKit
section
variable {w w':World} {S:Nat→Prop} {B bw b i:Nat} {bs:List Nat} {g:VG} {sg:Nat→SG} {net:List (MR×List (LE×List Int))} {Fs:Nat→Nat→Prop} {h:Nat} {cf:Rf.Cfg} {K K':Nat} {ws:Rf.Wd} {gh gh':Rf.Gh} {calm:Bool} {ss:Option Addr×Nat}
theorem Low.of {K:Nat} {nd:Nat→Rf.Nd} {net:List Rf.Msg} {gh:Rf.Gh} (h:Rf.Ok cf K ⟨nd,net⟩ gh) (i:Nat):Rf.Low cf K (nd i):=by
 have h1:=h.bnd.fin i
 have h2:=h.bnd.term i
 have h3:=(h.inv.comm i).1
 simp only at h1 h2 h3
 have e:(nd i).fin=(nd i).log.length:=rfl
 refine ⟨by omega,by omega,by omega,fun h4 p hp=>?_⟩
 have:=(h.inv.nxt i h4 p ((Rf.mem_others.1 hp).2∘fun e=>e.trans (h.inv.ids i).symm)).2
 simp only at this
 omega
theorem others_nx {K:Nat} {nd:Nat→Rf.Nd} {net:List Rf.Msg} {gh:Rf.Gh} (h:Rf.Ok cf K ⟨nd,net⟩ gh) (i:Nat) (h4:(nd i).role=4):∀ q∈Rf.others cf (nd i).id,(1≤(nd i).nx q∧(nd i).nx q≤(nd i).log.length+1)∧(nd i).mt q≤(nd i).log.length:=fun q hq=>by
 have:=h.inv.nxt i h4 q ((Rf.mem_others.1 hq).2∘fun e=>e.trans (h.inv.ids i).symm)
 simp only at this
 omega
theorem cw_tick (hC:CW w S B bw bs g sg net Fs h cf K ws gh) (hcal:g.calm=calm) (hi:i<cf.n) (hb:bs[i]?=some b) (hB:B≤w.heap.size) (hK:K+1≤60000) (hnl:ws.net.length≤900000000) (draw:Int) (m0 m1 m2 m3 m4 m5 m6 m7 m8 m9 k12 k13 k14 k15:Value) :
  Calls Tryz.prog 15 #[.pointer (some ⟨bw,0,none⟩),.pointer (some ⟨b,0,none⟩),.agg #[.int .i64 1,.int .i64 draw,m0,m1,m2,m3,m4,m5,m6,m7,m8,m9,k12,k13,k14,k15]] w fun e w'=>e=.returned (.tuple #[.int .i64 0,.bool true])∧∃ gh',CWf (fun j=>Fr g bw bs Fs cf.n j∨w.heap.size≤j) w' B bw bs cf (K+1) calm (g.sA,g.sc) ⟨Rf.setN ws.nd (i+1) (Rf.tick cf draw (ws.nd (i+1))).1,capd calm (ws.net++(Rf.tick cf draw (ws.nd (i+1))).2)⟩ gh'∧Rf.Ext ws.nd (Rf.setN ws.nd (i+1) (Rf.tick cf draw (ws.nd (i+1))).1) gh gh'∧Chg (Fr g bw bs Fs cf.n) w w':=by
 obtain ⟨gh',hok,hext⟩:=hC.ok.tk (d:=fun _=>draw) hC.cok (i:=i+1) (by omega) (by omega)
 have hok':Rf.Ok cf (K+1) ⟨Rf.setN ws.nd (i+1) (Rf.tick cf draw (ws.nd (i+1))).1,ws.net++(Rf.tick cf draw (ws.nd (i+1))).2⟩ gh':=hok
 have hl:=Low.of hok' (i+1)
 rw [Rf.setN_at] at hl
 have hl0:Rf.Low cf K (ws.nd (i+1)):=Low.of hC.ok (i+1)
 have hs:=hC.ok.soft (i+1)
 have hid:=hC.ok.inv.ids (i+1)
 have hf:=hC.fits hi
 have ht:=hC.tame i hi
 have hms:(Rf.tick cf draw (ws.nd (i+1))).2.length≤1000:=by have h1:_≤_:=Rf.Few.tick (c:=cf) (draw:=draw) (s:=ws.nd (i+1));have:=hC.cok.n;omega
 have hcn:=hC.cok.n
 have hcb:=hC.cok.beat
 have hcm:=hC.cok.most
 have hcl:=hC.cok.least
 have hff:Fits cf (Rf.tick cf draw (ws.nd (i+1))).1:=by
  have h1:=(hok'.inv.comm (i+1)).1
  have h2:=hok'.inv.ids (i+1)
  simp only [Rf.setN_at] at h1 h2
  exact ⟨hf.n,hf.time,hf.batch,by rw [h2];omega,by have:=hl.fin;omega,by have:=hl.term;omega,h1⟩
 refine (cw_step hC hcal hi hb _ _ hok' hext hB (Nat.le_succ _) Rf.H3.tick (ht.tick (by rw [hid];omega) fun h4=>(hs.el4 h4).2) (Rf.Nms.tick ⟨by have:=hl0.fin;omega,by have:=hl0.term;omega,by have:=hl0.com;omega,fun h4 p hp=>by have:=hl0.nx h4 p hp;omega⟩ hl) Rf.tick_commit (by omega) 1 draw m0 m1 m2 m3 m4 m5 m6 m7 m8 m9 k12 k13 k14 k15 (.inl rfl) ?_).mono ?_
 ·intro W hW hN
  refine (step_ok (p':=(Rf.tick cf draw (ws.nd (i+1))).1) (ms:=(Rf.tick cf draw (ws.nd (i+1))).2) (draw:=draw) hN hff 1 72 m0 m1 m2 m3 m4 m5 m6 m7 m8 m9 k12 k13 k14 k15 (by decide) rfl (fun _ _=>by simp [go_sem]) ?_).mono ?_
  ·intro W2 F0 hN2 _ _
   refine (tick_any _ hN2 hf (by have:=hl0.fin;omega) (by have:=hl0.term;omega) (by simp) ?_ (by have:=ht.beat;omega) (by have:=ht.hd.len;omega) fun h4 q hq=>(others_nx hC.ok (i+1) h4 q hq).1).mono ?_
   ·by_cases h4:(ws.nd (i+1)).role=4
    ·have:=(hs.el4 h4).1;omega
    ·have:=hs.el h4;have:=hs.time;omega
   ·rintro e w' ⟨rfl,hA⟩
    rw [List.nil_append] at hA
    exact ⟨rfl,hA⟩
  ·rintro e w' ⟨F',SR,k,wr,eA,en,ec,mA,mn,mc,sA,sn,sc,fi,la,rfl,h1,h2,h3,h4,h5,h6⟩
   exact ⟨F',SR,k,wr,eA,en,ec,mA,mn,mc,sA,sn,sc,fi,la,rfl,h1,h2,h3,h4,h5,h6⟩
 ·rintro e w' ⟨rfl,hx,hb'⟩
  exact ⟨rfl,gh',hx,hext,hb'⟩
theorem cw_msg (hC:CW w S B bw bs g sg net Fs h cf K ws gh) (hcal:g.calm=calm) (m:Rf.Msg) (old:List Rf.Msg) (hm:m∈old) (hold:∀ x∈ws.net,x∈old) (hO:Rf.Ok cf K ⟨ws.nd,old⟩ gh) (hH:Rf.H3 old) (hN:Rf.Nms K old) (hd:m.dst=i+1) (hi:i<cf.n) (hb:bs[i]?=some b) (hB:B≤w.heap.size) (hK:K≤60000) (hnl:ws.net.length≤900000000)
  (SM:Nat→Prop) (A:Option Addr) (n c:Nat) (qs:List (LE×List Int)) (hSM:∀ j,SM j→j<w.heap.size∧¬ Fs i j) (hE:EntsS w SM A qs) (hqs:qs.map con=numb m.idx m.es) (hn:n=qs.length) (hnc:n≤c) (draw:Int) (k12 k13 k14 k15:Value) :
  Calls Tryz.prog 15 #[.pointer (some ⟨bw,0,none⟩),.pointer (some ⟨b,0,none⟩),.agg #[.int .i64 2,.int .i64 draw,.int .i64 m.kind,.int .i64 m.src,.int .i64 m.dst,.int .i64 m.term,.int .i64 m.idx,.int .i64 m.lt,.int .i64 m.commit,.slice A n c,.bool m.rej,.int .i64 m.hint,k12,k13,k14,k15]] w fun e w'=>e=.returned (.tuple #[.int .i64 0,.bool true])∧∃ gh',CWf (fun j=>Fr g bw bs Fs cf.n j∨w.heap.size≤j) w' B bw bs cf K calm (g.sA,g.sc) ⟨Rf.setN ws.nd (i+1) (Rf.message cf draw m (ws.nd (i+1))).1,capd calm (ws.net++(Rf.message cf draw m (ws.nd (i+1))).2)⟩ gh'∧Rf.Ext ws.nd (Rf.setN ws.nd (i+1) (Rf.message cf draw m (ws.nd (i+1))).1) gh gh'∧Rf.Ok cf K ⟨Rf.setN ws.nd (i+1) (Rf.message cf draw m (ws.nd (i+1))).1,ws.net++(Rf.message cf draw m (ws.nd (i+1))).2⟩ gh'∧Chg (Fr g bw bs Fs cf.n) w w':=by
 obtain ⟨gh',hok,hext⟩:=hO.come (draw:=draw) (net':=ws.net++(Rf.message cf draw m (ws.nd (i+1))).2) hC.cok hm (fun x hx=>by
  rw [hd]
  rcases List.mem_append.1 hx with hx | hx
  ·exact .inl (hold x hx)
  ·exact .inr hx)
 simp only [hd] at hok hext
 have hl:=Low.of hok (i+1)
 rw [Rf.setN_at] at hl
 have hl0:Rf.Low cf K (ws.nd (i+1)):=Low.of hC.ok (i+1)
 have hid:=hC.ok.inv.ids (i+1)
 have hf:=hC.fits hi
 have ht:=hC.tame i hi
 have hms:(Rf.message cf draw m (ws.nd (i+1))).2.length≤1000:=by have h1:_≤_:=Rf.Few.message (c:=cf) (draw:=draw) (m:=m) (s:=ws.nd (i+1));have:=hC.cok.n;omega
 have hcn:=hC.cok.n
 have hM:=(hO.inv.msgs m hm).1
 have hNm:=hN m hm
 have hsrc:m.src∈Rf.others cf (ws.nd (i+1)).id:=Rf.mem_others.2 ⟨hM.rng.1,by rw [hid];have:=hM.form.ne;omega⟩
 have hff:Fits cf (Rf.message cf draw m (ws.nd (i+1))).1:=by
  have h1:=(hok.inv.comm (i+1)).1
  have h2:=hok.inv.ids (i+1)
  simp only [Rf.setN_at] at h1 h2
  exact ⟨hf.n,hf.time,hf.batch,by rw [h2];omega,by have:=hl.fin;omega,by have:=hl.term;omega,h1⟩
 have hr5:=hO.inv.right5 hm
 have hr6:=hO.inv.right6 hm
 simp only [hd] at hr5 hr6
 have hCm:Comes cf (ws.nd (i+1)) m :=
  ⟨hM.form,hM.rng.1,by rw [hid,hd],by have:=hNm.term;omega,by have:=hNm.idx;omega,by have:=hNm.com;omega,by have:=hNm.hint;omega,hH m hm,hO.inv.goes hm,hr5,fun a b d e=>hr6 a b d e,by have:=hl0.fin;omega,by have:=hl0.term;omega,by have:=ht.gr.len;omega,by have:=ht.rf.len;omega,by have:=ht.hd.len;omega,
   fun h4 q hq=>(others_nx hC.ok (i+1) h4 q hq).1,fun h4 q hq=>(others_nx hC.ok (i+1) h4 q hq).2⟩
 refine (cw_step hC hcal hi hb _ _ hok hext hB (Nat.le_refl _) Rf.H3.message (ht.message (by rw [hid];omega) hM.rng.1) (Rf.Nms.message hl0 hNm hsrc hl) Rf.message_commit (by omega) 2 draw _ _ _ _ _ _ _ _ _ _ k12 k13 k14 k15 (.inr (.inl rfl)) ?_).mono ?_
 ·intro W hW hN
  refine (step_ok (p':=(Rf.message cf draw m (ws.nd (i+1))).1) (ms:=(Rf.message cf draw m (ws.nd (i+1))).2) (draw:=draw) hN hff 2 73 _ _ _ _ _ _ _ _ _ _ k12 k13 k14 k15 (by decide) rfl (fun _ _=>by simp [go_sem]) ?_).mono ?_
  ·intro W2 F0 hN2 hc2 hF2
   have hkeep:∀ j,SM j→W2.heap[j]?=w.heap[j]?:=fun j hj=>(hc2.keep (Nat.lt_of_lt_of_le (hSM j hj).1 hW.size) (hSM j hj).2).trans (hW.block j (hSM j hj).1)
   refine (message_at hN2 hf (by simp) _ _ k12 k13 k14 k15 m A n c hCm SM qs (hE.keep hkeep) (fun j hj=>⟨by have:=(hSM j hj).1;have:=hW.size;have:=hc2.size;omega,fun hF=>?_,fun x=>x⟩) hqs hn hnc).mono ?_
   ·rcases hF2 j hF with h1 | h1
    ·exact (hSM j hj).2 h1
    ·have:=(hSM j hj).1;have:=hW.size;omega
   ·rintro e w' ⟨rfl,hA⟩
    rw [List.nil_append] at hA
    exact ⟨rfl,hA⟩
  ·rintro e w' ⟨F',SR,k,wr,eA,en,ec,mA,mn,mc,sA,sn,sc,fi,la,rfl,h1,h2,h3,h4,h5,h6⟩
   exact ⟨F',SR,k,wr,eA,en,ec,mA,mn,mc,sA,sn,sc,fi,la,rfl,h1,h2,h3,h4,h5,h6⟩
 ·rintro e w' ⟨rfl,hx,hb'⟩
  exact ⟨rfl,gh',hx,hext,hok,hb'⟩
theorem cw_propose (hC:CW w S B bw bs g sg net Fs h cf K ws gh) (hcal:g.calm=calm) (hi:i<cf.n) (hb:bs[i]?=some b) (hB:B≤w.heap.size) (hnl:ws.net.length≤900000000) (h4:(ws.nd (i+1)).role=4)
  (SM:Nat→Prop) (dA:Option Addr) (dn dc:Nat) (ds:List (BR×List Int)) (hSM:∀ j,SM j→j<w.heap.size∧¬ Fs i j) (hE:DataS w SM dA ds) (hdn:dn=ds.length) (h1:1≤ds.length) (h2:ds.length≤16) (hK:K+ds.length≤60000) (draw:Int) (m0 m1 m2 m3 m4 m5 m6 m7 m8 m9 k13 k14 k15:Value) :
  Calls Tryz.prog 15 #[.pointer (some ⟨bw,0,none⟩),.pointer (some ⟨b,0,none⟩),.agg #[.int .i64 3,.int .i64 draw,m0,m1,m2,m3,m4,m5,m6,m7,m8,m9,.slice dA dn dc,k13,k14,k15]] w fun e w'=>e=.returned (.tuple #[.int .i64 0,.bool true])∧∃ gh',CWx w' B bw bs cf (K+ds.length) calm (g.sA,g.sc) ⟨Rf.setN ws.nd (i+1) (Rf.propose cf (ds.map (·.2)) (ws.nd (i+1))).1,capd calm (ws.net++(Rf.propose cf (ds.map (·.2)) (ws.nd (i+1))).2)⟩ gh'∧Rf.Ext ws.nd (Rf.setN ws.nd (i+1) (Rf.propose cf (ds.map (·.2)) (ws.nd (i+1))).1) gh gh'∧Rf.Ok cf (K+ds.length) ⟨Rf.setN ws.nd (i+1) (Rf.propose cf (ds.map (·.2)) (ws.nd (i+1))).1,ws.net++(Rf.propose cf (ds.map (·.2)) (ws.nd (i+1))).2⟩ gh'∧Chg (Fr g bw bs Fs cf.n) w w':=by
 have hdl:(ds.map (·.2)).length=ds.length:=List.length_map _
 obtain ⟨gh',hok,hext⟩:=hC.ok.proposes hC.cok (L:=i+1) (by omega) h4 (l:=ds.map (·.2)) (fun e=>by have:=congrArg List.length e;rw [hdl,List.length_nil] at this;omega) (by rw [hdl];omega)
 rw [hdl] at hok
 have hl:=Low.of hok (i+1)
 rw [Rf.setN_at] at hl
 have hl0:Rf.Low cf K (ws.nd (i+1)):=Low.of hC.ok (i+1)
 have hf:=hC.fits hi
 have ht:=hC.tame i hi
 have hms:(Rf.propose cf (ds.map (·.2)) (ws.nd (i+1))).2.length≤1000:=by have h1:_≤_:=Rf.Few.propose (c:=cf) (s:=ws.nd (i+1)) (l:=ds.map (·.2));have:=hC.cok.n;omega
 have hcn:=hC.cok.n
 have hff:Fits cf (Rf.propose cf (ds.map (·.2)) (ws.nd (i+1))).1:=by
  have h1:=(hok.inv.comm (i+1)).1
  have h2:=hok.inv.ids (i+1)
  simp only [Rf.setN_at] at h1 h2
  exact ⟨hf.n,hf.time,hf.batch,by rw [h2];omega,by have:=hl.fin;omega,by have:=hl.term;omega,h1⟩
 refine (cw_step hC hcal hi hb _ _ hok hext hB (Nat.le_add_right _ _) Rf.H3.propose ht.propose (Rf.Nms.propose h4 hl) Rf.propose_commit (by omega) 3 draw m0 m1 m2 m3 m4 m5 m6 m7 m8 m9 _ k13 k14 k15 (.inr (.inr (.inl rfl))) ?_).mono ?_
 ·intro W hW hN
  refine (step_ok (p':=(Rf.propose cf (ds.map (·.2)) (ws.nd (i+1))).1) (ms:=(Rf.propose cf (ds.map (·.2)) (ws.nd (i+1))).2) (draw:=draw) hN hff 3 74 m0 m1 m2 m3 m4 m5 m6 m7 m8 m9 _ k13 k14 k15 (by decide) rfl (fun _ _=>by simp [go_sem]) ?_).mono ?_
  ·intro W2 F0 hN2 hc2 hF2
   have hkeep:∀ j,SM j→W2.heap[j]?=w.heap[j]?:=fun j hj=>(hc2.keep (Nat.lt_of_lt_of_le (hSM j hj).1 hW.size) (hSM j hj).2).trans (hW.block j (hSM j hj).1)
   refine (propose_yes hN2 hf (by simp) _ _ m0 m1 m2 m3 m4 m5 m6 m7 m8 m9 k13 k14 k15 dA dn dc ds SM (hE.keep hkeep) (fun j hj=>⟨by have:=(hSM j hj).1;have:=hW.size;have:=hc2.size;omega,fun hF=>?_,fun x=>x⟩) hdn h1 h2 h4 (by have:=hl0.fin;omega) (fun q hq=>(others_nx hC.ok (i+1) h4 q hq).1)).mono ?_
   ·rcases hF2 j hF with h1 | h1
    ·exact (hSM j hj).2 h1
    ·have:=(hSM j hj).1;have:=hW.size;omega
   ·rintro e w' ⟨rfl,hA⟩
    rw [List.nil_append] at hA
    exact ⟨rfl,hA⟩
  ·rintro e w' ⟨F',SR,k,wr,eA,en,ec,mA,mn,mc,sA,sn,sc,fi,la,rfl,h1,h2,h3,h4,h5,h6⟩
   exact ⟨F',SR,k,wr,eA,en,ec,mA,mn,mc,sA,sn,sc,fi,la,rfl,h1,h2,h3,h4,h5,h6⟩
 ·rintro e w' ⟨rfl,hx,hb'⟩
  exact ⟨rfl,gh',hx.x,hext,hok,hb'⟩
end
end Go.Proofs.YtocogcgnahbpkaaGreat
