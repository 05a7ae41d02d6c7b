import Derived.Test.YtocogcgnahbpkaaGreatC11
import Derived.Test.YtocogcgnahbpkaaGreatC12
import Derived.Test.YtocogcgnahbpkaaGreatC39
namespace Go.Proofs.YtocogcgnahbpkaaGreat
open Go.RowKit
theorem cellsM {w:World} {b:Nat} {a0 a1 a2 a3 a4 a5 a6 a7 a8 a9:Value} {t:TypeId} (h:w.heap[b]?=some (.cells #[a0,a1,a2,a3,a4,a5,a6,a7,a8,a9] t (0,0))):w.cell? ⟨b,0,none⟩=some a0∧w.cell? ⟨b,1,none⟩=some a1∧w.cell? ⟨b,2,none⟩=some a2∧w.cell? ⟨b,3,none⟩=some a3∧w.cell? ⟨b,4,none⟩=some a4∧w.cell? ⟨b,5,none⟩=some a5∧w.cell? ⟨b,6,none⟩=some a6∧w.cell? ⟨b,7,none⟩=some a7∧w.cell? ⟨b,8,none⟩=some a8∧w.cell? ⟨b,9,none⟩=some a9 :=
 ⟨cell_block h 0 _ rfl,cell_block h 1 _ rfl,cell_block h 2 _ rfl,cell_block h 3 _ rfl,cell_block h 4 _ rfl,cell_block h 5 _ rfl,cell_block h 6 _ rfl,cell_block h 7 _ rfl,cell_block h 8 _ rfl,cell_block h 9 _ rfl⟩
theorem size59:∀ w,(sizeOf 59).run Tryz.prog w=.ok 10 w:=fun w=>by kernel_rfl
theorem pmOf_inj {q:MR×List (LE×List Int)} {m:Rf.Msg} (h:pmOf q=pmR m):q.1=mrOf m q.1.eA q.1.en q.1.ec∧q.2.map con=numb m.idx m.es:=by
 obtain ⟨⟨a0,a1,a2,a3,a4,a5,a6,a7,a8,a9,a10,a11⟩,qs⟩:=q
 simp only [pmOf,MR.pm,pmR,PM.mk.injEq] at h
 obtain ⟨rfl,rfl,rfl,rfl,rfl,rfl,rfl,h,rfl,rfl⟩:=h
 exact ⟨rfl,h⟩
section
variable {w w':World} {S:Nat→Prop} {B bw b i:Nat} {bs:List Nat} {g:VG} {sg:Nat→SG} {net:List (MR×List (LE×List Int))} {Fs:Nat→Nat→Prop} {h:Nat} {cf:Rf.Cfg} {K K':Nat} {ws:Rf.Wd} {gh gh':Rf.Gh} {calm:Bool} {ss:Option Addr×Nat}
theorem CW.chg (hC:CW w S B bw bs g sg net Fs h cf K ws gh) {X:Nat→Prop} (hc:Chg X w w') (hX:∀ j,X j→¬ S j∧¬ Fr g bw bs Fs cf.n j):CW w' S B bw bs g sg net Fs h cf K ws gh :=
 { hC with at_:=hC.at_.chg hc fun j hj=>⟨(hX j hj).1,fun hm=>(hX j hj).2 (.inl hm)⟩,node:=fun i hi=>(hC.node i hi).keep hc.size fun j hj hl=>hc.keep hl fun hx=>(hX j hx).2 (.inr ⟨i,hi,hj⟩) }
theorem CW.notS (hC:CW w S B bw bs g sg net Fs h cf K ws gh) {j:Nat} (hj:S j):¬ Fr g bw bs Fs cf.n j:=fun hm=>by
 rcases hm with hm | ⟨k,hk,hm⟩
 ·exact hC.at_.st j hj hm
 ·exact (hC.apart k hk j hm).1 hj
theorem CW.renet {nn:List Rf.Msg} {net':List (MR×List (LE×List Int))} {A:Option Addr} {m c:Nat} (hC:CW w S B bw bs g sg net Fs h cf K ws gh) (hB:B≤w.heap.size) {w3:World} (hb:Below w.heap.size w w3) (hO:OwnO encM 10 59 w3 (.slice A m c) (net'.map (·.1))) (hf:∀ j,(Value.slice A m c).ownBlock=some j→w.heap.size≤j)
  (hE:∀ q∈net',q∈net) (hn:net'.map pmOf=nn.map pmR) (hsub:∀ x∈nn,x∈ws.net) :
  CW (w3.setCell ⟨bw,7,none⟩ (.slice A m c)) S B bw bs { g with nA:=A,nn:=m,nc:=c } sg net' Fs h cf K ⟨ws.nd,nn⟩ gh∧(∀ j,Fr { g with nA:=A,nn:=m,nc:=c } bw bs Fs cf.n j→Fr g bw bs Fs cf.n j∨w.heap.size≤j)∧Chg (Fr g bw bs Fs cf.n) w (w3.setCell ⟨bw,7,none⟩ (.slice A m c)):=by
 have h3:=hC.below hb
 have hmu:∀ j,VG.mut { g with nA:=A,nn:=m,nc:=c } bw bs j→g.mut bw bs j∨w.heap.size≤j:=fun j hj=>by
  rcases hj with hj | hj | hj | hj | hj | hj | hj
  ·exact .inl (.inl hj)
  ·exact .inl (.inr (.inl hj))
  ·exact .inl (.inr (.inr (.inl hj)))
  ·exact .inl (.inr (.inr (.inr (.inl hj))))
  ·exact .inl (.inr (.inr (.inr (.inr (.inl hj)))))
  ·exact .inl (.inr (.inr (.inr (.inr (.inr (.inl hj))))))
  ·exact .inr (hf j hj)
 have hbw:∀ j,j=bw→¬ S j∧∀ k,k<cf.n→¬ Fs k j:=fun j hj=>⟨fun hs=>hC.at_.st j hs (.inl hj),fun k hk hf=>(hC.apart k hk j hf).2.1 (.inl hj)⟩
 have hat:=h3.at_.renet (w':=w3.setCell ⟨bw,7,none⟩ (.slice A m c)) (chg1 Chg.refl _) (by rw [block_setCell h3.at_.wb];rfl) hO (fun q hq=>h3.at_.netE q (hE q hq)) (fun j hj hs=>by have:=hf j hj;have:=hC.at_.bd j hs;omega)
 refine ⟨⟨hat,hC.cfg,fun k hk=>(h3.node k hk).keep (Nat.le_of_eq (by simp only [World.setCell,Array.size_modify])) fun j hj _=>Below.heap_setCell _ _ _ _ fun (e:j=bw)=>(hbw j e).2 k hk hj,fun k hk j hj=>⟨(hC.apart k hk j hj).1,fun hm=>?_,(hC.apart k hk j hj).2.2⟩,⟨fun j hj=>?_,hC.base.2⟩,hC.seat,hn,⟨hC.inv.high,hC.inv.le,hC.inv.v,hC.inv.l,hC.inv.k,hC.inv.n⟩,hC.cmh,hC.cok,hC.ok.sub hsub,hC.h3.sub hsub,hC.tame,hC.nm.sub hsub,hC.out⟩,fun j hj=>?_,?_⟩
 ·rcases hmu j hm with h1 | h1
  ·exact (hC.apart k hk j hj).2.1 h1
  ·have:=(hC.node k hk).bd.1 j hj;omega
 ·rcases hmu j hj with h1 | h1
  ·exact hC.base.1 j h1
  ·omega
 ·rcases hj with hj | hj
  ·exact (hmu j hj).imp_left .inl
  ·exact .inl (.inr hj)
 ·exact (Chg.ofBelow hb).setCell (p:=⟨bw,7,none⟩) (.inl (.inl (.inl rfl))) _
theorem CWx.seatCell (hx:CWx w B bw bs cf K calm ss ws gh) {sb so sc:Nat} (hss:ss=(some ⟨sb,so,none⟩,sc)) (hb:bs[i]?=some b):w.cell? ⟨bw,6,none⟩=some (.slice (some ⟨sb,so,none⟩) cf.n sc)∧w.cell? ⟨sb,so+i,none⟩=some (.pointer (some ⟨b,0,none⟩)):=by
 obtain ⟨S,g,sg,net,Fs,h,hC,_,he⟩:=hx
 rw [hss] at he
 injection he with h1 h2
 obtain ⟨b',o',h3,_,h4⟩:=RowS.at_ hC.at_.seats hb
 rw [h1] at h3
 injection h3 with h3
 injection h3 with h3 h5
 subst h3 h5
 refine ⟨?_,?_⟩
 ·have:=vw6 hC.at_.wb
  rwa [h1,h2,hC.cfg.1] at this
 ·have:=h4 0 _ rfl
  rwa [Nat.mul_one,Nat.add_zero] at this
theorem mem_eraseIdx' {α:Type} {l:List α} {k:Nat} {x:α} (hx:x∈l.eraseIdx k):x∈l:=List.mem_of_mem_eraseIdx hx
theorem eraseIdx_split {α:Type} (l:List α) (k:Nat):l.eraseIdx k=l.take k++l.drop (k+1):=List.eraseIdx_eq_take_drop_succ l k
theorem map_eraseIdx' {α β:Type} (f:α→β) (l:List α) (k:Nat):(l.eraseIdx k).map f=(l.map f).eraseIdx k:=by
 rw [eraseIdx_split,eraseIdx_split,List.map_append,List.map_take,List.map_drop]
set_option maxRecDepth 100000 in
set_option maxHeartbeats 20000000 in
theorem arrive_any (hC:CW w S B bw bs g sg net Fs h cf K ws gh) (hcal:g.calm=calm) (hB:B≤w.heap.size) (hKb:K≤60000) (hnl:ws.net.length≤900000000) (k:Nat) (m:Rf.Msg) (hm:ws.net[k]?=some m) (draw:Int) (twice:Bool) (nn:List Rf.Msg) (hnn':nn=if twice=true then ws.net else ws.net.eraseIdx k) :
  Calls Tryz.prog 25 #[.pointer (some ⟨bw,0,none⟩),.int .i64 (k:Int),.int .i64 draw,.bool twice] w fun e w'=>e=.returned (.bool true)∧∃ gh',CWf (fun j=>Fr g bw bs Fs cf.n j∨w.heap.size≤j) w' B bw bs cf K calm (g.sA,g.sc) ⟨Rf.setN ws.nd m.dst (Rf.message cf draw m (ws.nd m.dst)).1,capd calm (nn++(Rf.message cf draw m (ws.nd m.dst)).2)⟩ gh'∧Rf.Ext ws.nd (Rf.setN ws.nd m.dst (Rf.message cf draw m (ws.nd m.dst)).1) gh gh'∧Rf.Ok cf K ⟨Rf.setN ws.nd m.dst (Rf.message cf draw m (ws.nd m.dst)).1,nn++(Rf.message cf draw m (ws.nd m.dst)).2⟩ gh'∧Chg (Fr g bw bs Fs cf.n) w w':=by
 have HNN:=ld hnn'
 have hsub:∀ x∈nn,x∈ws.net:=fun x hx=>by rw [hnn'] at hx;split at hx;exact hx;exact mem_eraseIdx' hx
 have hnl':nn.length≤900000000:=by rw [hnn'];split;exact hnl;exact Nat.le_trans (List.length_eraseIdx_le _ _) hnl
 clear hnn'
 have hmm:m∈ws.net:=List.mem_of_getElem? hm
 have hM:=(hC.ok.inv.msgs m hmm).1
 obtain ⟨i,hmd⟩:∃ i,m.dst=i+1:=⟨m.dst-1,by have:=hM.rng.2;omega⟩
 have hi:i<cf.n:=by have:=hM.rng.2;omega
 obtain ⟨b,hb⟩:∃ b,bs[i]?=some b:=⟨_,List.getElem?_eq_getElem (by rw [hC.len];exact hi)⟩
 obtain ⟨q,hq,hqm⟩:∃ q,net[k]?=some q∧pmOf q=pmR m:=by
  have:=congrArg (·[k]?) hC.net
  simp only [List.getElem?_map,hm,Option.map_some] at this
  obtain ⟨q,h1,h2⟩:=Option.map_eq_some_iff.1 this
  exact ⟨q,h1,h2⟩
 obtain ⟨hq1,hq2⟩:=pmOf_inj hqm
 obtain ⟨hrow,hnn,hnc⟩:=hC.at_.netO.rowS (S:=fun j=>j<w.heap.size) len_M (fun j hj=>hC.at_.netO.lt j hj)
 rw [List.length_map] at hnn
 obtain ⟨gN,off,hnA,hgN,hcl⟩:=RowS.at_ hrow (show (net.map (·.1))[k]?=some q.1 by rw [List.getElem?_map,hq];rfl)
 rw [hq1] at hcl
 have c0:w.cell? ⟨gN,off+k*10,none⟩=some (.int .i64 m.kind):=hcl 0 _ rfl
 have c1:w.cell? ⟨gN,off+k*10+1,none⟩=some (.int .i64 m.src):=hcl 1 _ rfl
 have c2:w.cell? ⟨gN,off+k*10+2,none⟩=some (.int .i64 m.dst):=hcl 2 _ rfl
 have c3:w.cell? ⟨gN,off+k*10+3,none⟩=some (.int .i64 m.term):=hcl 3 _ rfl
 have c4:w.cell? ⟨gN,off+k*10+4,none⟩=some (.int .i64 m.idx):=hcl 4 _ rfl
 have c5:w.cell? ⟨gN,off+k*10+5,none⟩=some (.int .i64 m.lt):=hcl 5 _ rfl
 have c6:w.cell? ⟨gN,off+k*10+6,none⟩=some (.int .i64 m.commit):=hcl 6 _ rfl
 have c7:w.cell? ⟨gN,off+k*10+7,none⟩=some (.slice q.1.eA q.1.en q.1.ec):=hcl 7 _ rfl
 have c8:w.cell? ⟨gN,off+k*10+8,none⟩=some (.bool m.rej):=hcl 8 _ rfl
 have c9:w.cell? ⟨gN,off+k*10+9,none⟩=some (.int .i64 m.hint):=hcl 9 _ rfl
 have hkl:k<net.length:=(List.getElem?_eq_some_iff.1 hq).1
 have HROW:Hid (Row encM 10 w w.heap.size (some ⟨gN,off,none⟩) (net.map (·.1))):=ld (by rw [←hnA];exact hrow.row fun j hj=>hj)
 have c7':=vw7 hC.at_.wb
 rw [hnA,hnn] at c7'
 rw [hnn] at hnc
 obtain ⟨sb,so,hsA,_,_⟩:=RowS.at_ hC.at_.seats hb
 have HC:=ld hC
 have HQE:=ld (hC.at_.netE q (List.mem_of_getElem? hq))
 have HQ:=ld (And.intro hq (And.intro hq1 hq2))
 have HMM:=ld (And.intro hm (And.intro hmm hM))
 have HSA:=ld hsA
 have HNA:=ld (And.intro hnA hnn)
 have HI:=ld (And.intro hb (And.intro hi hmd))
 have HCAL:=ld hcal
 have hkn:(k:Int)<(net.length:Int):=by omega
 have hlw:bw<w.heap.size:=block_lt hC.at_.wb
 have hnl2:net.length≤900000000:=by rw [hC.netl];exact hnl
 clear hC hmm hM hq hq1 hq2 hqm hrow hcl hnn hsA hb hmd hm hnA hcal
 go_enter Tryz.func25,Tryz.ntmps25
 go_upto_if 21 with fail
 have hb1:=below_one w (.cells #[.int .i64 m.kind,.int .i64 m.src,.int .i64 m.dst,.int .i64 m.term,.int .i64 m.idx,.int .i64 m.lt,.int .i64 m.commit,.slice q.1.eA q.1.en q.1.ec,.bool m.rej,.int .i64 m.hint] 59)
 have hz1:=World.alloc_at w (.cells #[.int .i64 m.kind,.int .i64 m.src,.int .i64 m.dst,.int .i64 m.term,.int .i64 m.idx,.int .i64 m.lt,.int .i64 m.commit,.slice q.1.eA q.1.en q.1.ec,.bool m.rej,.int .i64 m.hint] 59)
 obtain ⟨z,hz⟩:∃ z,z=w.heap.size:=⟨_,rfl⟩
 rw [←hz] at hz1
 rw [←hz]
 have HZ:=ld hz
 clear hz c0 c1 c2 c3 c4 c5 c6 c7 c8 c9
 generalize w.alloc (.cells #[.int .i64 m.kind,.int .i64 m.src,.int .i64 m.dst,.int .i64 m.term,.int .i64 m.idx,.int .i64 m.lt,.int .i64 m.commit,.slice q.1.eA q.1.en q.1.ec,.bool m.rej,.int .i64 m.hint] 59)=W1 at hb1 hz1 ⊢
 have HC1:=ld (HC.out.below hb1)
 have HB1:=ld hb1
 have HZ1:=ld hz1
 clear hb1 hz1 c7' hlw
 go_cut [] (fun wx=>Hid (∃ g1 net1,CW wx S B bw bs g1 sg net1 Fs h cf K ⟨ws.nd,nn⟩ gh∧g1.calm=g.calm∧(g1.sA,g1.sc)=(g.sA,g.sc)∧(∀ j,Fr g1 bw bs Fs cf.n j→Fr g bw bs Fs cf.n j∨w.heap.size≤j)∧wx.heap[z]?=some (.cells #[.int .i64 m.kind,.int .i64 m.src,.int .i64 m.dst,.int .i64 m.term,.int .i64 m.idx,.int .i64 m.lt,.int .i64 m.commit,.slice q.1.eA q.1.en q.1.ec,.bool m.rej,.int .i64 m.hint] 59 (0,0))∧¬ Fr g1 bw bs Fs cf.n z∧EntsS wx S q.1.eA q.2∧Chg (Fr g bw bs Fs cf.n) w wx))
 case first =>
  cases twice with
  | true =>
   go_wp2_with (fail)
   go_meet
   have hnn2:nn=ws.net:=HNN.out
   exact ld ⟨g,net,(by rw [hnn2];exact HC1.out),rfl,rfl,fun j hj=>.inl hj,HZ1.out,HC.out.fresh (Nat.le_of_eq HZ.out.symm),HQE.out.1.keep fun j hj=>HB1.out.block j (HC.out.at_.bd j hj),Chg.ofBelow HB1.out⟩
  | false =>
   have hlw:bw<W1.heap.size:=block_lt HC1.out.at_.wb
   have hfw:=frozen_block HC1.out.at_.wb
   have c7:W1.cell? ⟨bw,7,none⟩=some (.slice (some ⟨gN,off,none⟩) net.length g.nc):=by
    have:=vw7 HC1.out.at_.wb
    rwa [HNA.out.1,HNA.out.2] at this
   have hR1:Row encM 10 W1 w.heap.size (some ⟨gN,off,none⟩) (net.map (·.1)):=HROW.out.below HB1.out
   have hml:(net.map (·.1)).length=net.length:=List.length_map _
   go_upto_region 5 with (first
    | (refine wp_cut _ encM 10 rfl (.tmp 26) none (some (.tmp 27)) 38 rfl 59 Tryz.underlying38 size59 w.heap.size (some ⟨gN,off,none⟩) net.length g.nc rfl (net.map (·.1)) hml.symm hR1 0 k rfl (fun _=>rfl) rfl (fun h=>by cases h) (by omega) (by omega) hnc ?_;intro A1 hr1;rw [List.drop_zero] at hr1)
    | (at_builtin;refine wp_app _ encM 10 rfl _ _ 38 rfl W1.heap.size 59 96 Tryz.underlying38 info59 (by omega) len_M one_M (.slice none 0 0) [] rfl Own.nil w.heap.size A1 _ _ ((net.map (·.1)).take k) (by rw [List.length_take,hml];omega) rfl hr1 (by simp;omega) (by simp;omega) (Nat.le_refl _) ?_;intro v2 w2 hown2 hg2 hat2 _)
    | fail)
   rw [List.nil_append] at hown2
   obtain ⟨A2,k2,rfl⟩:=hown2.form
   have hb2:Below W1.heap.size W1 w2:=(Below.refl _ _).grown hg2 (Nat.le_refl _) (fun j hj=>by cases hj)
   have HB2:=ld hb2
   have HO2:=ld hown2
   have hl2:((net.map (·.1)).take k).length=k:=by rw [List.length_take,hml];omega
   simp only [hl2] at HO2 ⊢
   have hR2:Row encM 10 w2 w.heap.size (some ⟨gN,off,none⟩) (net.map (·.1)):=hR1.below ⟨hb2.os,hb2.tape,hb2.output,by have:=HB1.out.size;have:=hb2.size;omega,fun j hj=>hb2.block j (by have:=HB1.out.size;omega)⟩
   have hC2:=HC1.out.below hb2
   have HC2:=ld hC2
   clear c7 hR1 hown2 hg2 hat2 hb2 hr1 hlw hfw hC2
   have hlw:bw<w2.heap.size:=block_lt HC2.out.at_.wb
   have hfw:=frozen_block HC2.out.at_.wb
   have c7:w2.cell? ⟨bw,7,none⟩=some (.slice (some ⟨gN,off,none⟩) net.length g.nc):=by
    have:=vw7 HC2.out.at_.wb
    rwa [HNA.out.1,HNA.out.2] at this
   have q1:IntKind.i64.wrap ((k:Int)+1)=(k:Int)+1:=by rw [IntWalk.i64_in _ (by omega)]
   have HKL:=ld (And.intro hkl hnc)
   have hR3:=hR2.cut (k:=k+1) (n:=net.length) HKL.out.1 HKL.out.2
   rw [List.take_of_length_le (Nat.le_of_eq hml)] at hR3
   have hl4:((net.map (·.1)).take k++(net.map (·.1)).drop (k+1))=(net.eraseIdx k).map (·.1):=by rw [map_eraseIdx',eraseIdx_split]
   by_cases hnk:g.nc=k+1
   ·rw [if_pos hnk] at hR3
    go_wp2_with (first
     | (at_builtin;refine wp_app _ encM 10 rfl _ _ 38 rfl W1.heap.size 59 96 Tryz.underlying38 info59 (by omega) len_M one_M (.slice A2 k k2) ((net.map (·.1)).take k) rfl HO2.out w.heap.size _ _ _ ((net.map (·.1)).drop (k+1)) (by rw [List.length_drop,hml]) rfl hR3 (by simp;omega) (by simp;omega) HB2.out.size ?_;intro v4 w4 hown4 hg4 hat4 _;rw [hl4] at hown4;obtain ⟨A4,k4,rfl⟩:=hown4.form;have hb4:Below W1.heap.size W1 w4:=HB2.out.grown hg4 HB2.out.size (fun j hj=>(HO2.out.lt j hj).1);have hC4:=HC1.out.below hb4;have hlw4:bw<w4.heap.size:=block_lt hC4.at_.wb;have hfw4:=frozen_block hC4.at_.wb;have c74:=vw7 hC4.at_.wb)
     | fail)
    go_meet
    obtain ⟨hx1,hx2,hx3⟩:=CW.renet (net':=net.eraseIdx k) (nn:=ws.net.eraseIdx k) HC1.out (Nat.le_trans hB HB1.out.size) hb4 hown4.ownO (fun j hj=>(hown4.lt j hj).1) (fun x hx=>mem_eraseIdx' hx) (by rw [map_eraseIdx',map_eraseIdx',HC.out.net]) (fun x hx=>mem_eraseIdx' hx)
    simp only [List.length_map] at hx1 hx2 hx3
    have hzW:z<W1.heap.size:=block_lt HZ1.out
    have hzb:z≠bw:=fun e=>absurd (ne_typed HZ1.out (by rw [e];exact HC1.out.at_.wb)) (by decide)
    have hxc:=(Chg.ofBelow HB1.out).trans2 hx3 (fun j hj=>.inl hj)
    have hnn2:nn=ws.net.eraseIdx k:=HNN.out
    rw [←hnn2] at hx1
    exact ld ⟨_,_,hx1,rfl,rfl,fun j hj=>(hx2 j hj).imp_right fun h=>Nat.le_trans HB1.out.size h,(Below.heap_setCell _ _ _ _ hzb).trans ((hb4.block z hzW).trans HZ1.out),fun hf=>(hx2 z hf).elim (HC.out.fresh (Nat.le_of_eq HZ.out.symm)) (fun h=>by omega),HQE.out.1.keep fun j hj=>hxc.keep (HC.out.at_.bd j hj) (HC.out.notS hj),hxc⟩
   ·rw [if_neg hnk,Option.map_some,Addr.add_lit] at hR3
    go_wp2_with (first
     | (at_builtin;refine wp_app _ encM 10 rfl _ _ 38 rfl W1.heap.size 59 96 Tryz.underlying38 info59 (by omega) len_M one_M (.slice A2 k k2) ((net.map (·.1)).take k) rfl HO2.out w.heap.size _ _ _ ((net.map (·.1)).drop (k+1)) (by rw [List.length_drop,hml]) rfl hR3 (by simp;omega) (by simp;omega) HB2.out.size ?_;intro v4 w4 hown4 hg4 hat4 _;rw [hl4] at hown4;obtain ⟨A4,k4,rfl⟩:=hown4.form;have hb4:Below W1.heap.size W1 w4:=HB2.out.grown hg4 HB2.out.size (fun j hj=>(HO2.out.lt j hj).1);have hC4:=HC1.out.below hb4;have hlw4:bw<w4.heap.size:=block_lt hC4.at_.wb;have hfw4:=frozen_block hC4.at_.wb;have c74:=vw7 hC4.at_.wb)
     | fail)
    go_meet
    obtain ⟨hx1,hx2,hx3⟩:=CW.renet (net':=net.eraseIdx k) (nn:=ws.net.eraseIdx k) HC1.out (Nat.le_trans hB HB1.out.size) hb4 hown4.ownO (fun j hj=>(hown4.lt j hj).1) (fun x hx=>mem_eraseIdx' hx) (by rw [map_eraseIdx',map_eraseIdx',HC.out.net]) (fun x hx=>mem_eraseIdx' hx)
    simp only [List.length_map] at hx1 hx2 hx3
    have hzW:z<W1.heap.size:=block_lt HZ1.out
    have hzb:z≠bw:=fun e=>absurd (ne_typed HZ1.out (by rw [e];exact HC1.out.at_.wb)) (by decide)
    have hxc:=(Chg.ofBelow HB1.out).trans2 hx3 (fun j hj=>.inl hj)
    have hnn2:nn=ws.net.eraseIdx k:=HNN.out
    rw [←hnn2] at hx1
    exact ld ⟨_,_,hx1,rfl,rfl,fun j hj=>(hx2 j hj).imp_right fun h=>Nat.le_trans HB1.out.size h,(Below.heap_setCell _ _ _ _ hzb).trans ((hb4.block z hzW).trans HZ1.out),fun hf=>(hx2 z hf).elim (HC.out.fresh (Nat.le_of_eq HZ.out.symm)) (fun h=>by omega),HQE.out.1.keep fun j hj=>hxc.keep (HC.out.at_.bd j hj) (HC.out.notS hj),hxc⟩
 case rest =>
  obtain ⟨g1,net1,h1,h2,h3,h4,h5,h6,h7,h8⟩:=hcut.out
  have HC2:=ld h1
  have HG2:=ld (And.intro h2 (And.intro h3 h4))
  have HZ2:=ld (And.intro h5 h6)
  have HE2:=ld h7
  have HX2:=ld h8
  clear hcut h1 h2 h3 h4 h5 h6 h7 h8 HC1 HB1 HZ1 hkl hkn hnc hnl2
  have hlz:z<wc.heap.size:=block_lt HZ2.out.1
  have hlw:bw<wc.heap.size:=block_lt HC2.out.at_.wb
  have z2:wc.cell? ⟨z,2,none⟩=some (.int .i64 m.dst):=cell_block HZ2.out.1 2 _ rfl
  have z7:wc.cell? ⟨z,7,none⟩=some (.slice q.1.eA q.1.en q.1.ec):=cell_block HZ2.out.1 7 _ rfl
  have hsn:g1.n=cf.n:=HC2.out.cfg.1
  have c6:wc.cell? ⟨bw,6,none⟩=some (.slice (some ⟨sb,so,none⟩) cf.n g.sc):=by
   have e:=HG2.out.2.1
   injection e with e1 e2
   have:=vw6 HC2.out.at_.wb
   rwa [hsn,e1,e2,HSA.out] at this
  have hd1:¬ ((m.dst:Int)<1):=by have:=HI.out.2.2;omega
  have hd2:¬ ((cf.n:Int)<(m.dst:Int)):=by have:=HI.out.2;omega
  have hd3:¬ (cf.n<m.dst):=by have:=HI.out.2;omega
  clear hsn
  go_upto_region 6 with (fail)
  go_quiet (fail)
  generalize hW3:wc.drewN _=W3
  have HC3:Hid (CW W3 S B bw bs g1 sg net1 Fs h cf K ⟨ws.nd,nn⟩ gh):=ld (by rw [←hW3];exact HC2.out.chg (X:=fun _=>False) (Chg.refl.drewN _) fun j hj=>hj.elim)
  have HZ3:Hid (W3.heap[z]?=some (.cells #[.int .i64 m.kind,.int .i64 m.src,.int .i64 m.dst,.int .i64 m.term,.int .i64 m.idx,.int .i64 m.lt,.int .i64 m.commit,.slice q.1.eA q.1.en q.1.ec,.bool m.rej,.int .i64 m.hint] 59 (0,0))):=ld (by rw [←hW3];exact HZ2.out.1)
  have HE3:Hid (EntsS W3 S q.1.eA q.2):=ld (by rw [←hW3];exact HE2.out.keep fun _ _=>rfl)
  have HX3:Hid (Chg (Fr g bw bs Fs cf.n) w W3):=ld (by rw [←hW3];exact HX2.out.drewN _)
  clear hW3 hlz hlw z2 z7 c6 hd1 hd2 hd3 HC2 HE2 HX2
  have hlz:z<W3.heap.size:=block_lt HZ3.out
  have z7:W3.cell? ⟨z,7,none⟩=some (.slice q.1.eA q.1.en q.1.ec):=cell_block HZ3.out 7 _ rfl
  go_wp2_with (fail)
  have hql:q.2.length≤16:=by
   have:=congrArg List.length HQ.out.2.2
   rw [List.length_map,numb_len] at this
   have:=HMM.out.2.2.form.len
   omega
  refine (copyLog_any _ _ _ q.2 W3 (HE3.out.ents HC3.out.at_.bd) HQE.out.2.1 (by omega)).mono ?_
  rintro e w5 ⟨v5,qs5,rfl,hO5,hq5,hb5⟩
  obtain ⟨A5,k5,rfl⟩:=hO5.own.form
  simp only [List.length_map] at hO5 ⊢
  have hz5:=(hb5.block z hlz).trans HZ3.out
  clear z7
  have hlz5:z<w5.heap.size:=block_lt hz5
  have hfz:=frozen_block hz5
  have z7:w5.cell? ⟨z,7,none⟩=some (.slice q.1.eA q.1.en q.1.ec):=cell_block hz5 7 _ rfl
  go_upto_region 9 with (fail)
  have hz6:(w5.setCell ⟨z,7,none⟩ (.slice A5 qs5.length k5)).heap[z]?=some (.cells #[.int .i64 m.kind,.int .i64 m.src,.int .i64 m.dst,.int .i64 m.term,.int .i64 m.idx,.int .i64 m.lt,.int .i64 m.commit,.slice A5 qs5.length k5,.bool m.rej,.int .i64 m.hint] 59 (0,0)):=by rw [block_setCell hz5];rfl
  obtain ⟨he5,hn5,hc5⟩:=hO5.entsS
  have hC6:=(HC3.out.below hb5).chg (X:=fun j=>j=z) (chg1 (o:=7) (b:=z) Chg.refl (.slice A5 qs5.length k5)) (fun j e=>by
   subst e
   exact ⟨fun hs=>by have:=HC.out.at_.bd _ hs;have:=HZ.out;omega,HZ2.out.2⟩)
  have HE6:=ld (show EntsS (w5.setCell ⟨z,7,none⟩ (.slice A5 qs5.length k5)) (fun j=>W3.heap.size≤j∧j<w5.heap.size) A5 qs5 from he5.keep fun j hj=>Below.heap_setCell _ _ _ _ (fun (e:j=z)=>by have:=hj.1;omega))
  have hx6:=(HX3.out.below hb5).trans2 (chg1 (o:=7) (b:=z) Chg.refl (.slice A5 qs5.length k5)) (fun j hj=>.inr (by rw [hj,HZ.out];exact Nat.le_refl _))
  have hs6:(w5.setCell ⟨z,7,none⟩ (.slice A5 qs5.length k5)).heap.size=w5.heap.size:=by simp only [World.setCell,Array.size_modify]
  have HQ5:=ld (And.intro hc5 (hq5.trans HQ.out.2.2))
  have HS5:=ld hb5.size
  clear hO5 hq5 hb5 hz5 hlz5 hfz z7 hlz he5 hn5 hc5 hql
  generalize w5.setCell ⟨z,7,none⟩ (.slice A5 qs5.length k5)=W6 at hz6 hC6 HE6 hx6 hs6 ⊢
  have HC6:=ld hC6
  have HZ6:=ld hz6
  have HX6:=ld hx6
  have HS6:=ld hs6
  clear hC6 hz6 hx6 hs6
  have hss1:(g1.sA,g1.sc)=(some ⟨sb,so,none⟩,g.sc):=by rw [HG2.out.2.1,HSA.out]
  have HSS:=ld hss1
  clear hss1
  have HCW:Hid (∀ W,Below W6.heap.size W6 W→CW W S B bw bs g1 sg net1 Fs h cf K ⟨ws.nd,nn⟩ gh):=ld fun W hW=>HC6.out.below hW
  have hS9:W6.drew.cell? ⟨bw,6,none⟩=some (.slice (some ⟨sb,so,none⟩) cf.n g.sc)∧W6.drew.cell? ⟨sb,so+i,none⟩=some (.pointer (some ⟨b,0,none⟩))∧W6.drew.heap[z]?=some (.cells #[.int .i64 m.kind,.int .i64 m.src,.int .i64 m.dst,.int .i64 m.term,.int .i64 m.idx,.int .i64 m.lt,.int .i64 m.commit,.slice A5 qs5.length k5,.bool m.rej,.int .i64 m.hint] 59 (0,0)):=by
   have:=CWx.seatCell (K:=K) (calm:=g1.calm) (gh:=gh) ⟨S,g1,sg,net1,Fs,h,HCW.out _ (Below.refl _ _).drew,rfl,rfl⟩ HSS.out HI.out.1
   exact ⟨this.1,this.2,HZ6.out⟩
  have q9:IntKind.i64.wrap ((m.dst:Int)-1)=(i:Int):=by rw [HI.out.2.2,IntWalk.i64_in _ (by have:=HI.out.2.1;have:=HC.out.cok.n;omega)];omega
  have q10:(i:Int)<(cf.n:Int):=by have:=HI.out.2.1;omega
  have q11:i<cf.n:=HI.out.2.1
  have q12:(0:Int)≤(i:Int):=by omega
  refine wp_region_held_drew (S:=fun W:World=>W.cell? ⟨bw,6,none⟩=some (.slice (some ⟨sb,so,none⟩) cf.n g.sc)∧W.cell? ⟨sb,so+i,none⟩=some (.pointer (some ⟨b,0,none⟩))∧W.heap[z]?=some (.cells #[.int .i64 m.kind,.int .i64 m.src,.int .i64 m.dst,.int .i64 m.term,.int .i64 m.idx,.int .i64 m.lt,.int .i64 m.commit,.slice A5 qs5.length k5,.bool m.rej,.int .i64 m.hint] 59 (0,0))) (by kernel_rfl) hS9 (fun hHeld=>?_)
  refine tks 0 (.pointer (some ⟨bw,0,none⟩)) ?_
  refine tks 1 (.pointer (some ⟨bw,0,none⟩)) ?_
  refine tks 2 (.pointer (some ⟨bw,0,none⟩)) ?_
  refine tks 3 (.pointer (some ⟨bw,6,none⟩)) ?_
  refine tk 4 (.slice (some ⟨sb,so,none⟩) cf.n g.sc) ?_ ?_
  ·intro w hSw;have t1:=hSw.1;go_simp
  refine tks 5 (.pointer (some ⟨z,2,none⟩)) ?_
  refine tk 6 (.int .i64 m.dst) ?_ ?_
  ·intro w hSw;obtain ⟨s0,s1,s2,s3,s4,s5,s6,s7,s8,s9⟩:=cellsM hSw.2.2;go_simp
  refine tks 7 (.int .i64 (i:Int)) ?_
  refine tks 8 (.pointer (some ⟨sb,so+i,none⟩)) ?_
  refine tk 9 (.pointer (some ⟨b,0,none⟩)) ?_ ?_
  ·intro w hSw;have t2:=hSw.2.1;go_simp
  refine tk 10 (.agg #[.int .i64 m.kind,.int .i64 m.src,.int .i64 m.dst,.int .i64 m.term,.int .i64 m.idx,.int .i64 m.lt,.int .i64 m.commit,.slice A5 qs5.length k5,.bool m.rej,.int .i64 m.hint]) ?_ ?_
  ·intro w hSw;obtain ⟨s0,s1,s2,s3,s4,s5,s6,s7,s8,s9⟩:=cellsM hSw.2.2;go_simp
  refine tks 11 (.int .i64 draw) ?_
  refine tks 12 (.agg #[.int .i64 2,.int .i64 draw,.int .i64 m.kind,.int .i64 m.src,.int .i64 m.dst,.int .i64 m.term,.int .i64 m.idx,.int .i64 m.lt,.int .i64 m.commit,.slice A5 qs5.length k5,.bool m.rej,.int .i64 m.hint,.slice none 0 0,.int .i64 0,.int .i64 0,.int .i64 0]) ?_
  refine rdy 13 fun K hK=>?_
  go_simp
  refine (cw_msg (HCW.out _ (Below.refl _ _).drew) (HG2.out.1.trans HCAL.out) m ws.net HMM.out.2.1 hsub HC.out.ok HC.out.h3 HC.out.nm HI.out.2.2 q11 HI.out.1 (Nat.le_trans hB HX6.out.size) hKb hnl' (fun j=>W3.heap.size≤j∧j<w5.heap.size) A5 qs5.length k5 qs5 (fun j hj=>⟨by show j<W6.heap.size;rw [HS6.out];exact hj.2,fun hf=>by have:=(HC3.out.node i q11).bd.1 j hf;omega⟩) (HE6.out.keep fun _ _=>rfl) HQ5.out.2 rfl HQ5.out.1 draw _ _ _ _).mono ?_
  rintro e w8 ⟨rfl,gh',hx8,hext8,hok8,hc8⟩
  have hc8':Chg (Fr g1 bw bs Fs cf.n) W6 w8:=⟨hc8.os,hc8.tape,hc8.output,hc8.size,hc8.block⟩
  have hsc8:=hx8.x.seatCell HSS.out HI.out.1
  have hz8:=(hc8'.keep (block_lt HZ6.out) HZ2.out.2).trans HZ6.out
  go_wp2_with fail
  refine hks hK ?_ fun hHeld=>?_
  ·exact ⟨hsc8.1,hsc8.2,hz8⟩
  clear hK K
  refine tks 14 (.tuple #[.int .i64 0,.bool true]) ?_
  refine tks 15 (.int .i64 0) ?_
  refine tks 16 (.bool true) ?_
  refine tks 17 (.int .i64 0) ?_
  refine tks 18 (.bool true) ?_
  refine don ?_
  go_wp2_with fail
  go_ret
  refine ⟨rfl,gh',?_⟩
  rw [HI.out.2.2]
  refine ⟨?_,hext8,hok8,HX6.out.trans2 hc8' (fun j hj=>?_)⟩
  ·rw [←HG2.out.2.1]
   exact hx8.mono fun j hj=>hj.elim (HG2.out.2.2 j) fun h1=>.inr (Nat.le_trans HX6.out.size h1)
  ·rcases HG2.out.2.2 j hj with h1 | h1
   ·exact .inl h1
   ·exact .inr h1
end
section
variable {w w':World} {S:Nat→Prop} {B bw b i:Nat} {bs:List Nat} {g:VG} {sg:Nat→SG} {net:List (MR×List (LE×List Int))} {Fs:Nat→Nat→Prop} {h:Nat} {cf:Rf.Cfg} {K K':Nat} {ws:Rf.Wd} {gh gh':Rf.Gh} {calm:Bool} {ss:Option Addr×Nat}
theorem CW.seats (hC:CW w S B bw bs g sg net Fs h cf K ws gh):∃ sb so,g.sA=some ⟨sb,so,none⟩∧S sb∧cf.n≤cf.n:=by
 have hn:=hC.cok.n
 obtain ⟨b,hb⟩:∃ b,bs[0]?=some b:=⟨_,List.getElem?_eq_getElem (by rw [hC.len];omega)⟩
 obtain ⟨sb,so,h1,h2,_⟩:=RowS.at_ hC.at_.seats hb
 exact ⟨sb,so,h1,h2,Nat.le_refl _⟩
theorem CW.ptr (hC:CW w S B bw bs g sg net Fs h cf K ws gh) {sb so:Nat} (hs:g.sA=some ⟨sb,so,none⟩) (hb:bs[i]?=some b):w.cell? ⟨sb,so+i,none⟩=some (.pointer (some ⟨b,0,none⟩)):=by
 obtain ⟨b',o',h3,_,h4⟩:=RowS.at_ hC.at_.seats hb
 rw [hs] at h3
 injection h3 with h3
 injection h3 with h3 h5
 subst h3 h5
 have:=h4 0 _ rfl
 rwa [Nat.mul_one,Nat.add_zero] at this
theorem CW.sat (hC:CW w S B bw bs g sg net Fs h cf K ws gh) (hi:i<cf.n):∃ b,bs[i]?=some b∧SAt w S b (sg (i+1))∧(sg (i+1)).id=((i+1:Nat):Int):=by
 obtain ⟨b,hb⟩:∃ b,bs[i]?=some b:=⟨_,List.getElem?_eq_getElem (by rw [hC.len];exact hi)⟩
 exact ⟨b,hb,hC.at_.seat i b hb⟩
theorem CW.drewN (hC:CW w S B bw bs g sg net Fs h cf K ws gh) (n:Nat):CW (w.drewN n) S B bw bs g sg net Fs h cf K ws gh:=hC.chg (X:=fun _=>False) (Chg.refl.drewN n) fun _ hj=>hj.elim
theorem CW.log (hC:CW w S B bw bs g sg net Fs h cf K ws gh) (hi:i<cf.n):(sg (i+1)).dl.length=(ws.nd (i+1)).log.length:=by
 have:=congrArg List.length (hC.seat i hi).2.2.2.2.2
 rwa [List.length_map,numb_len] at this
theorem CW.log_le (hC:CW w S B bw bs g sg net Fs h cf K ws gh) (j:Nat):(ws.nd j).log.length≤K:=by
 have:=hC.ok.bnd.fin j
 have e:(ws.nd j).fin=(ws.nd j).log.length:=rfl
 omega
set_option maxRecDepth 100000 in
set_option maxHeartbeats 1000000 in
theorem draw_any (hC:CW w S B bw bs g sg net Fs h cf K ws gh) {f:Nat} (_:f<cf.n) (hb:bs[f]?=some b) (id:Nat) :
  Calls Tryz.prog 35 #[.pointer (some ⟨bw,0,none⟩),.int .i64 (id:Int),.pointer (some ⟨b,0,none⟩)] w fun e w'=>e=.returned (.int .i64 (Rf.drawC cf (f+1) id))∧∃ n,w'=w.drewN n:=by
 have hs:=hC.at_.seat f b hb
 have d0:=vs0 hs.1.blk
 rw [hs.2] at d0
 have hlb:=block_lt hs.1.blk
 have hlw:=block_lt hC.at_.wb
 have c2:=vw2 hC.at_.wb
 have c3:=vw3 hC.at_.wb
 rw [hC.cfg.2.1] at c2
 rw [hC.cfg.2.2.1] at c3
 have hm:=hC.cok.most
 have hl:=hC.cok.least
 by_cases he:id=f+1
 ·have hq:((id:Int)==((f+1:Nat):Int))=true:=by rw [he];simp
  have HE:Hid (Rf.drawC cf (f+1) id=0):=ld (by unfold Rf.drawC;rw [if_pos he])
  clear he hC hs
  go_enter Tryz.func35,Tryz.ntmps35
  go_wp2_with (fail)
  go_ret
  exact ⟨by rw [HE.out];rfl,0,rfl⟩
 ·have hq:((id:Int)==((f+1:Nat):Int))=false:=by simpa using (by omega:¬ (id:Int)=(f:Int)+1)
  have hq2:((id:Int)==(f:Int)+1)=false:=by simpa using (by omega:¬ (id:Int)=(f:Int)+1)
  have HE:Hid (Rf.drawC cf (f+1) id=(cf.most:Int)-cf.least):=ld (by unfold Rf.drawC;rw [if_neg he])
  have q1:IntKind.i64.wrap ((cf.most:Int)-(cf.least:Int))=(cf.most:Int)-cf.least:=IntWalk.i64_in _ (by omega)
  clear he hC hs
  go_enter Tryz.func35,Tryz.ntmps35
  go_wp2_with (fail)
  go_quiet (fail)
  go_wp2_with (fail)
  go_ret
  exact ⟨by rw [HE.out];rfl,_,rfl⟩
set_option maxRecDepth 100000 in
set_option maxHeartbeats 1000000 in
theorem enough_any' (hC:CW w S B bw bs g sg net Fs h cf K ws gh) (hnl:ws.net.length≤900000000) :
  Calls Tryz.prog 48 #[.pointer (some ⟨bw,0,none⟩)] w fun e w'=>(∃ hi mo:Nat,e=.returned (.int .i64 (mo:Int))∧mo=5000+20*ws.net.length+200*cf.n*(hi+10)∧∀ j,1≤j→j≤cf.n→(ws.nd j).log.length≤hi)∧∃ n,w'=w.drewN n:=by
 obtain ⟨sb,so,hsA,hsS,_⟩:=hC.seats
 have HC:=ld hC
 have HSA:=ld hsA
 have c6:=vw6 hC.at_.wb
 have c7:=vw7 hC.at_.wb
 rw [hsA,hC.cfg.1] at c6
 have hnn:g.nn=ws.net.length:=by
  obtain ⟨A,c,he,_⟩:=hC.at_.netO.form
  injection he with _ he _
  rw [he,List.length_map,hC.netl]
 rw [hnn] at c7
 have hlw:=block_lt hC.at_.wb
 have hls:sb<w.heap.size:=hC.at_.bd _ hsS
 have hn5:=hC.cok.n
 have HK:=ld hC.ok.small
 clear hC hsA hsS hnn
 go_enter Tryz.func48,Tryz.ntmps48
 go_wp2_with (fail)
 go_loopw [3,4] (fun hh sl wr=>∃ (nq k m:Nat),sl=.int .i64 k∧k≤cf.n∧hh=.int .i64 m∧m≤100000∧(∀ j,1≤j→j≤k→(ws.nd j).log.length≤m)∧wr=w.drewN nq) (fun _ sl _=>cf.n-(intOf sl).toNat)
 case atStart=>exact ⟨0,0,0,rfl,Nat.zero_le _,rfl,by omega,fun j h1 h2=>by omega,rfl⟩
 case round =>
  obtain ⟨nq,k,m,rfl,hk,rfl,hm,hmx,rfl⟩:=hrel
  have HMX:=ld hmx
  clear hmx
  by_cases hlt:k<cf.n
  ·have hlt':(k:Int)<(cf.n:Int):=by omega
   have hk0:(0:Int)≤(k:Int):=by omega
   obtain ⟨b,hb,hsat,hid⟩:=HC.out.sat hlt
   have cp:w.cell? ⟨sb,so+k,none⟩=some (.pointer (some ⟨b,0,none⟩)):=HC.out.ptr HSA.out hb
   have hll:=HC.out.log hlt
   have hlk:=HC.out.log_le (k+1)
   have hks:=HK.out
   have HL:=ld (last_at b (sg (k+1)) S (w.drewN nq) ((HC.out.drewN nq).at_.seat k b hb).1 (HC.out.drewN nq).at_.bd (by omega))
   rw [hll] at HL
   have hl6:(ws.nd (k+1)).log.length≤100000:=by omega
   clear hb hsat hid hll hlk hks
   go_wp2_with (go_at_call 30;refine HL.out.mono ?_;rintro e w2 ⟨rfl,n2,rfl⟩)
   exact ⟨⟨nq+n2,k+1,if m<(ws.nd (k+1)).log.length then (ws.nd (k+1)).log.length else m,by go_num,by omega,by split <;> rfl,by split <;> omega,fun j h1 h2=>by
    rcases Nat.lt_or_ge k j with h3 | h3
    ·have:j=k+1:=by omega
     subst this
     split <;> omega
    ·have:=HMX.out j h1 h3
     split <;> omega,rfl⟩,by simp [intOf];omega⟩
  ·have hkn:k=cf.n:=by omega
   have hlt':¬ ((k:Int)<(cf.n:Int)):=by omega
   have HE:=ld hkn
   clear hkn
   have w0:IntKind.i64.wrap (20*(ws.net.length:Int))=20*(ws.net.length:Int):=IntWalk.i64_in _ (by omega)
   have w1:IntKind.i64.wrap ((m:Int)+10)=(m:Int)+10:=IntWalk.i64_in _ (by omega)
   have w2:IntKind.i64.wrap (200*(cf.n:Int))=200*(cf.n:Int):=IntWalk.i64_in _ (by omega)
   have hmul:(0:Int)≤200*(cf.n:Int)*((m:Int)+10)∧200*(cf.n:Int)*((m:Int)+10)≤1000*100010:=by
    have h1:(200*cf.n)*(m+10)≤1000*100010:=Nat.mul_le_mul (by omega) (by omega)
    have h2:(((200*cf.n)*(m+10):Nat):Int)=200*(cf.n:Int)*((m:Int)+10):=by push_cast;rfl
    omega
   have w3:IntKind.i64.wrap (200*(cf.n:Int)*((m:Int)+10))=200*(cf.n:Int)*((m:Int)+10):=IntWalk.i64_in _ (by omega)
   have w4:IntKind.i64.wrap (5000+20*(ws.net.length:Int))=5000+20*(ws.net.length:Int):=IntWalk.i64_in _ (by omega)
   have w5:IntKind.i64.wrap (5000+20*(ws.net.length:Int)+200*(cf.n:Int)*((m:Int)+10))=5000+20*(ws.net.length:Int)+200*(cf.n:Int)*((m:Int)+10):=IntWalk.i64_in _ (by omega)
   go_wp2_with (fail)
   go_quiet (fail)
   go_wp2
   go_ret
   refine ⟨⟨m,5000+20*ws.net.length+200*cf.n*(m+10),by push_cast;rfl,rfl,fun j h1 h2=>HMX.out j h1 (by rw [HE.out];exact h2)⟩,?_⟩
   simp only [World.drewN_drewN]
   exact ⟨_,rfl⟩
end
section
variable {w w':World} {S:Nat→Prop} {B bw b i:Nat} {bs:List Nat} {g:VG} {sg:Nat→SG} {net:List (MR×List (LE×List Int))} {Fs:Nat→Nat→Prop} {h:Nat} {cf:Rf.Cfg} {K K':Nat} {ws:Rf.Wd} {gh gh':Rf.Gh} {calm:Bool} {ss:Option Addr×Nat}
theorem CW.netCell (hC:CW w S B bw bs g sg net Fs h cf K ws gh):∃ A c,w.cell? ⟨bw,7,none⟩=some (.slice A ws.net.length c):=by
 obtain ⟨A,c,he,_⟩:=hC.at_.netO.form
 have:=vw7 hC.at_.wb
 rw [he,List.length_map,hC.netl] at this
 exact ⟨A,c,this⟩
theorem CW.netHead (hC:CW w S B bw bs g sg net Fs h cf K ws gh) {m:Rf.Msg} {r:List Rf.Msg} (hn:ws.net=m :: r):∃ gN off c,w.cell? ⟨bw,7,none⟩=some (.slice (some ⟨gN,off,none⟩) ws.net.length c)∧w.cell? ⟨gN,off+2,none⟩=some (.int .i64 m.dst)∧gN<w.heap.size:=by
 obtain ⟨q,hq,hqm⟩:∃ q,net[0]?=some q∧pmOf q=pmR m:=by
  have:=congrArg (·[0]?) hC.net
  simp only [List.getElem?_map,hn,List.getElem?_cons_zero,Option.map_some] at this
  obtain ⟨q,h1,h2⟩:=Option.map_eq_some_iff.1 this
  exact ⟨q,h1,h2⟩
 obtain ⟨hq1,_⟩:=pmOf_inj hqm
 obtain ⟨hrow,hnn,_⟩:=hC.at_.netO.rowS (S:=fun j=>j<w.heap.size) len_M (fun j hj=>hC.at_.netO.lt j hj)
 rw [List.length_map,hC.netl] at hnn
 obtain ⟨gN,off,hnA,hgN,hcl⟩:=RowS.at_ hrow (show (net.map (·.1))[0]?=some q.1 by rw [List.getElem?_map,hq];rfl)
 have h7:=vw7 hC.at_.wb
 rw [hnA,hnn] at h7
 rw [hq1] at hcl
 have:=hcl 2 _ rfl
 rw [Nat.zero_mul,Nat.add_zero] at this
 exact ⟨gN,off,_,h7,this,hgN⟩
set_option maxRecDepth 100000 in
set_option maxHeartbeats 4000000 in
theorem quiet_any' (hx:CWx w B bw bs cf K true ss ws gh) {f:Nat} (hf:f<cf.n) (hb:bs[f]?=some b) (hB:B≤w.heap.size) (hKb:K≤60000) (hnl:ws.net.length≤10000) :
  Calls Tryz.prog 29 #[.pointer (some ⟨bw,0,none⟩),.pointer (some ⟨b,0,none⟩)] w fun e w'=>e=.returned (.bool true)∧∃ j gh',CWx w' B bw bs cf K true ss (ws.run cf (Rf.drawC cf (f+1)) j) gh'∧(ws.run cf (Rf.drawC cf (f+1)) j).net=[]∧Rf.Ext ws.nd (ws.run cf (Rf.drawC cf (f+1)) j).nd gh gh'∧Below B w w':=by
 obtain ⟨S0,g0,sg0,net0,Fs0,h0,hC0,_,_⟩:=id hx
 have hout:=hC0.out
 have hI0:=hC0.ok.inv
 have hn5:=hC0.cok.n
 have HE:=ld (enough_any' hC0 (by omega))
 have HLK:=ld hC0.log_le
 have HX:=ld hx
 have HB:=ld hb
 have HO:=ld hout
 have HI0:=ld hI0
 clear hC0 hx hb hout hI0
 go_enter Tryz.func29,Tryz.ntmps29
 go_wp2_with (go_at_call 48;refine HE.out.mono ?_;rintro e w2 ⟨⟨hi,mo,rfl,hmo,hhi⟩,n2,rfl⟩;have HMO:=ld hmo;clear hmo)
 obtain ⟨hm,hmh,hms⟩:∃ hm,(∀ j,(ws.nd j).log.length≤hm)∧(hm≤hi∧hm≤K):=by
  refine ⟨min hi K,fun j=>?_,Nat.min_le_left _ _,Nat.min_le_right _ _⟩
  have h2:=HLK.out j
  by_cases hj:1≤j∧j≤cf.n
  ·have:=hhi j hj.1 hj.2;omega
  ·rw [HO.out j hj];simp
 have hpsi:=Rf.psi_le (c:=cf) HI0.out hmh
 have hmul:cf.n*(cf.n*(8*hm+12))≤200*cf.n*(hm+10):=by
  have h1:cf.n*(8*hm+12)≤5*(8*hm+12):=Nat.mul_le_mul_right _ hn5.2
  have h2:cf.n*(cf.n*(8*hm+12))≤cf.n*(5*(8*hm+12)):=Nat.mul_le_mul_left _ h1
  have h3:cf.n*(5*(8*hm+12))≤cf.n*(200*(hm+10)):=Nat.mul_le_mul_left _ (by omega)
  have h4:200*cf.n*(hm+10)=cf.n*(200*(hm+10)):=by rw [Nat.mul_comm 200 cf.n,Nat.mul_assoc]
  omega
 have hmul2:200*cf.n*(hm+10)≤200*cf.n*(hi+10):=Nat.mul_le_mul_left _ (by omega)
 have hmul3:cf.n*(cf.n*(8*hm+12))≤5*(5*(8*60000+12)):=Nat.mul_le_mul hn5.2 (Nat.mul_le_mul hn5.2 (by omega))
 have hmo:=HMO.out
 obtain ⟨P,hP⟩:∃ P,P=Rf.psi cf gh ws.nd ws.net:=⟨_,rfl⟩
 have hPm:P<mo∧P≤20000000:=by rw [hP];omega
 have HP:=ld hP
 clear hmo hP hpsi hmul hmul2 hmul3 hmh hms hhi
 go_loopw [6] (fun sl wr=>∃ (k:Nat) (ghk:Rf.Gh),sl=.int .i64 k∧CWx wr B bw bs cf K true ss (ws.run cf (Rf.drawC cf (f+1)) k) ghk∧Rf.psi cf ghk (ws.run cf (Rf.drawC cf (f+1)) k).nd (ws.run cf (Rf.drawC cf (f+1)) k).net+k≤P∧Rf.Ext ws.nd (ws.run cf (Rf.drawC cf (f+1)) k).nd gh ghk∧Below B w wr) (fun sl _=>P+1-(intOf sl).toNat)
 case atStart=>exact ⟨0,gh,rfl,HX.out.below (below_drewN' (Below.refl _ _) _),by rw [HP.out];exact Nat.le_refl _,.refl fun _=>Nat.le_refl _,below_drewN' (Below.refl _ _) _⟩
 case round =>
  obtain ⟨k,ghk,rfl,hx,hpk,hext,hbw⟩:=hrel
  have hlt:(k:Int)<(mo:Int):=by omega
  obtain ⟨S,g,sg,net,Fs,h,hC,hcal,hss⟩:=id hx
  have HXT:=ld hext
  have HBW:=ld hbw
  have HC:=ld hC
  have HXX:=ld hx
  have HCS:=ld (And.intro hcal hss)
  clear hx hext hbw hC hcal hss
  obtain ⟨wk,hwk⟩:∃ wk,wk=ws.run cf (Rf.drawC cf (f+1)) k:=⟨_,rfl⟩
  rw [←hwk] at HC hpk HXT HXX
  have HWK:=ld hwk
  clear hwk
  have hlw:bw<wr.heap.size:=block_lt HC.out.at_.wb
  cases hnet:wk.net with
  | nil =>
   obtain ⟨A,c,c7⟩:=HC.out.netCell
   rw [hnet,List.length_nil] at c7
   have HN:=ld hnet
   clear hnet
   go_wp2_with (fail)
   go_ret
   exact ⟨rfl,k,ghk,by rw [←HWK.out];exact HXX.out,by rw [←HWK.out];exact HN.out,by rw [←HWK.out];exact HXT.out,HBW.out⟩
  | cons m r =>
   obtain ⟨gN,off,c,c7,c2,hgN⟩:=HC.out.netHead hnet
   have hl1:wk.net.length=r.length+1:=by rw [hnet];rfl
   have hnp:=Rf.net_psi (c:=cf) (g:=ghk) (nd:=wk.nd) (net:=wk.net)
   rw [hl1] at c7
   have hl0:(0:Int)<((r.length+1:Nat):Int):=by omega
   have hl0':((r.length:Int)+1==0)=false:=by simp;omega
   have hl00:(0:Int)<(r.length:Int)+1:=by omega
   have hl2:0<r.length+1:=by omega
   have HD:=ld (draw_any HC.out hf HB.out m.dst)
   have hnn:r=if false=true then wk.net else wk.net.eraseIdx 0:=by rw [hnet];rfl
   have HAR:Hid (∀ n,Calls Tryz.prog 25 #[.pointer (some ⟨bw,0,none⟩),.int .i64 0,.int .i64 (Rf.drawC cf (f+1) m.dst),.bool false] (wr.drewN n) _):=ld fun n=>arrive_any (HC.out.drewN n) HCS.out.1 (Nat.le_trans hB HBW.out.size) hKb (by omega) 0 m (by rw [hnet];rfl) (Rf.drawC cf (f+1) m.dst) false r hnn
   have HN:=ld hnet
   have hp2:=hpk
   have HPK:=ld hpk
   clear hnet hnn hl1 hnp hpk
   go_wp2_with (first
    | (go_at_call 35;refine HD.out.mono ?_;rintro e w3 ⟨rfl,n3,rfl⟩)
    | (go_at_call 25;refine (HAR.out _).mono ?_;rintro e w4 ⟨rfl,gh4,hx4,hext4,hok4,hc4⟩))
   go_roundw
   case rel =>
    have hb4:=(HC.out.drewN n3).chgB hc4 (Nat.le_trans hB HBW.out.size)
    have harr:ws.run cf (Rf.drawC cf (f+1)) (k+1)=⟨Rf.setN wk.nd m.dst (Rf.message cf (Rf.drawC cf (f+1) m.dst) m (wk.nd m.dst)).1,r++(Rf.message cf (Rf.drawC cf (f+1) m.dst) m (wk.nd m.dst)).2⟩:=by
     rw [Rf.run_succ,←HWK.out]
     unfold Rf.Wd.arr
     rw [HN.out];rfl
    have hI:=HC.out.ok.inv
    rw [HN.out] at hI
    have hps:=Rf.psi_down hI rfl hok4.inv hext4.ack (HC.out.ok.soft m.dst).role
    have hpk:=HPK.out
    rw [HN.out] at hpk
    refine ⟨k+1,gh4,by go_num,?_,?_,?_,?_⟩
    ·rw [harr,←HCS.out.2];exact hx4.x
    ·rw [harr];simp only;omega
    ·rw [harr];exact HXT.out.trans hext4
    ·exact ⟨hb4.os.trans HBW.out.os,hb4.tape.trans HBW.out.tape,hb4.output.trans HBW.out.output,Nat.le_trans HBW.out.size hb4.size,fun j hj=>(hb4.block j hj).trans (HBW.out.block j hj)⟩
   case measure=>simp [intOf];omega
end
end Go.Proofs.YtocogcgnahbpkaaGreat
