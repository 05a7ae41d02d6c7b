import Derived.Test.YtocogcgnahbpkaaGreatC12
import Derived.Test.YtocogcgnahbpkaaGreatC14
import Derived.Test.YtocogcgnahbpkaaGreatC18
import Derived.Test.YtocogcgnahbpkaaGreatC29
import Derived.Test.YtocogcgnahbpkaaGreatC41
namespace Go.Proofs.YtocogcgnahbpkaaGreat
open Go.RowKit
section
variable {w w':World} {S:Nat→Prop} {B bw b i:Nat} {bs:List Nat} {g:VG} {sg:Nat→SG} {net:List (MR×List (LE×List Int))} {Fs:Nat→Nat→Prop} {h:Nat} {cf:Rf.Cfg} {K K':Nat} {ws:Rf.Wd} {gh gh':Rf.Gh} {calm:Bool} {ss:Option Addr×Nat}
theorem CWx.led_no (hx:CWx w B bw bs cf K calm ss ws gh) (hno:Rf.NoLed cf ws):Calls Tryz.prog 12 #[.pointer (some ⟨bw,0,none⟩)] w fun e w'=>e=.returned (.pointer none)∧∃ n,w'=w.drewN n:=by
 refine hx.led.mono ?_
 rintro e w' ⟨⟨v,rfl,hv⟩,n,rfl⟩
 rcases hv.out with ⟨L,b,h1,_,_,h4⟩ | ⟨rfl,_⟩
 ·exact absurd ⟨L+1,_,⟨by omega,by omega⟩,h4⟩ hno
 ·exact ⟨rfl,n,rfl⟩
theorem CWx.led_yes (hx:CWx w B bw bs cf K calm ss ws gh) (hno:¬ Rf.NoLed cf ws):Calls Tryz.prog 12 #[.pointer (some ⟨bw,0,none⟩)] w fun e w'=>∃ L b,e=.returned (.pointer (some ⟨b,0,none⟩))∧Hid (L<cf.n∧bs[L]?=some b∧Rf.Led cf (L+1) (ws.nd (L+1)).term ws.nd)∧∃ n,w'=w.drewN n:=by
 refine hx.led.mono ?_
 rintro e w' ⟨⟨v,rfl,hv⟩,n,rfl⟩
 rcases hv.out with ⟨L,b,h1,h2,rfl,h4⟩ | ⟨_,h⟩
 ·exact ⟨L,b,rfl,ld ⟨h1,h2,h4⟩,n,rfl⟩
 ·exact absurd h hno
theorem CWx.last (hx:CWx w B bw bs cf K calm ss ws gh) (hi:i<cf.n) (hb:bs[i]?=some b) {l:Nat} (hl:l=(ws.nd (i+1)).log.length):Calls Tryz.prog 30 #[.pointer (some ⟨b,0,none⟩)] w fun e w'=>∃ t:Int,e=.returned (.tuple #[.int .i64 (l:Int),.int .i64 t])∧∃ n,w'=w.drewN n:=by
 subst hl
 obtain ⟨S,g,sg,net,Fs,h,hC,h1⟩:=hx
 refine (hC.lastAt hi hb).mono ?_
 rintro e w' ⟨rfl,n,rfl⟩
 exact ⟨_,rfl,n,rfl⟩
structure Calmed (w w':World) (B bw:Nat) (bs:List Nat) (cf:Rf.Cfg) (K:Nat) (ss:Option Addr×Nat) (ws:Rf.Wd) (gh:Rf.Gh) (ws':Rf.Wd) (gh':Rf.Gh):Prop where
 cw:CWx w' B bw bs cf (K+1000) true ss ws' gh'
 net:ws'.net=[]
 led:∃ L T lg,(1≤L∧L≤cf.n)∧Rf.Steady cf L T lg ws'.nd∧∀ p,1≤p→p≤cf.n→lg.length≤(ws'.nd p).commit
 below:Below B w w'
set_option maxRecDepth 100000 in
set_option maxHeartbeats 20000000 in
theorem calm_any (hx:CWx w B bw bs cf K calm ss ws gh) (hB:B≤w.heap.size) (hKb:K+1000≤60000) (hnl:ws.net.length≤1000) :
  Calls Tryz.prog 11 #[.pointer (some ⟨bw,0,none⟩)] w fun e w'=>e=.returned (.bool true)∧∃ ws' gh',Calmed w w' B bw bs cf K ss ws gh ws' gh':=by
 obtain ⟨⟨u13,c13⟩,hfz,hx1,hb1⟩:=hx.calmed hB true
 have hlw:=hx.lt
 have hcok:=hx.cok
 have hn5:=hcok.n
 have hmo:=hcok.most
 have hle:=hcok.least
 have hbe:=hcok.beat
 have HCK:=ld hcok
 have HX1:=ld hx1
 have HB1:=ld hb1
 clear hx hx1 hb1 hcok
 go_enter Tryz.func11,Tryz.ntmps11
 go_upto_region 2 with (fail)
 generalize w.setCell ⟨bw,13,none⟩ (.bool true)=W1 at HX1 HB1 ⊢
 clear c13 hfz hlw
 go_upto_region 3 with (go_at_call 28;refine HX1.out.best.mono ?_;rintro e w2 ⟨⟨v,rfl,hv⟩,n2,rfl⟩)
 obtain ⟨f,b,hf,hb,rfl,_⟩:=hv.out
 have hBW1:B≤W1.heap.size:=Nat.le_trans hB HB1.out.size
 have HQ:=ld (quiet_any' (HX1.out.drewN n2) hf hb hBW1 (by omega) (by omega))
 clear hv hf hb
 go_upto_region 5 with (go_at_call 29;refine HQ.out.mono ?_;rintro e w3 ⟨rfl,j1,gh3,hx3,hn3,hext3,hb3⟩)
 have HX3:=ld hx3
 have HN3:=ld hn3
 have HB3:Hid (Below B W1 w3):=ld ((below_drewN' (Below.refl _ _) n2).trans hb3)
 clear HQ HX1 hx3 hn3 hext3 hb3
 obtain ⟨ws1,hws1⟩:∃ ws1,ws1=ws.run cf (Rf.drawC cf (f+1)) j1:=⟨_,rfl⟩
 rw [←hws1] at HX3 HN3
 clear hws1
 go_upto_region 6 with (go_at_call 28;refine HX3.out.best.mono ?_;rintro e w4 ⟨⟨v,rfl,hv⟩,n4,rfl⟩)
 obtain ⟨f2,b2,hf2,hb2,rfl,hup⟩:=hv.out
 have HF2:=ld (And.intro hf2 hb2)
 have HUP:=ld hup
 clear hv hf2 hb2 hup
 have HX4:=ld (HX3.out.drewN n4)
 have HB4:=ld (below_drewN' HB3.out n4)
 clear HX3 HB3
 generalize w3.drewN n4=W4 at HX4 HB4 ⊢
 have HXW:Hid (Rf.Ok cf K ws1 gh3):=ld HX4.out.ok
 have UPA:Hid (∀ p,Rf.upTo (ws1.nd (f2+1)).log (ws1.nd p).log):=ld fun p=>by
  by_cases hp:1≤p∧p≤cf.n
  ·have:=HUP.out (p-1) (by omega)
   rwa [show p-1+1=p by omega] at this
  ·rw [HX4.out.out p hp]
   unfold Rf.upTo
   by_cases h0:(ws1.nd (f2+1)).log.length=0
   ·right;rw [h0];exact ⟨by rw [List.eq_nil_of_length_eq_zero h0];rfl,Nat.le_refl _⟩
   ·left
    show Rf.tmL [] 0<_
    have:=(HX4.out.ok.inv.logA (f2+1)).pos (k:=(ws1.nd (f2+1)).log.length) (by omega) (Nat.le_refl _)
    rw [Rf.tmL_nil];omega
 clear HUP
 go_wp2_with (fail)
 go_loopw [4] (fun sl wr=>∃ (k:Nat) (seq:Nat→Rf.Wd) (ghk:Rf.Gh),sl=.int .i64 k∧k≤5*cf.most+5∧Hid (seq 0=ws1∧∀ j,j<k→Rf.Tick cf (Rf.drawC cf (f2+1)) (seq j) (seq (j+1))∧Rf.NoLed cf (seq j))∧CWx wr B bw bs cf (K+k*cf.n) true ss (seq k) ghk∧Hid ((seq k).net=[])∧Below B W1 wr) (fun sl _=>5*cf.most+5-(intOf sl).toNat)
 case atStart=>exact ⟨0,fun _=>ws1,gh3,rfl,Nat.zero_le _,ld ⟨rfl,fun j hj=>by omega⟩,by rw [Nat.zero_mul];exact HX4.out,HN3,HB4.out⟩
 case round =>
  obtain ⟨k,seq,ghk,rfl,hk,hseq,hxk,hnk,hbk⟩:=hrel
  have HXK:=ld hxk
  have HBK:=ld hbk
  clear hxk hbk HX4 HB4
  have c3:=HXK.out.nums.2.1
  have hlw:=HXK.out.lt
  have hkn:k*cf.n≤(5*cf.most+5)*cf.n:=Nat.mul_le_mul_right _ hk
  have hkn2:(5*cf.most+5)*cf.n≤(5*30+5)*5:=Nat.mul_le_mul (by omega) hn5.2
  have q1:IntKind.i64.wrap (5*(cf.most:Int))=5*(cf.most:Int):=IntWalk.i64_in _ (by omega)
  have q2:IntKind.i64.wrap (5*(cf.most:Int)+5)=5*(cf.most:Int)+5:=IntWalk.i64_in _ (by omega)
  have hBr:B≤wr.heap.size:=Nat.le_trans hBW1 HBK.out.size
  by_cases hgo:k<5*cf.most+5∧Rf.NoLed cf (seq k)
  ·have hlt:(k:Int)<5*(cf.most:Int)+5:=by omega
   have HNL:=ld hgo.2
   have hkl:=hgo.1
   clear hgo
   go_wp2_with (first
    | (go_at_call 12;refine (HXK.out.led_no HNL.out).mono ?_;rintro e w5 ⟨rfl,n5,rfl⟩)
    | (go_at_call 17;refine (tick_any' (HXK.out.drewN n5) HF2.out.1 HF2.out.2 hBr (by omega) hnk.out).mono ?_;rintro e w6 ⟨rfl,ws6,gh6,hx6,ht6,hext6,hb6⟩;have HX6:=ld hx6;have HT6:=ld ht6;have HB6:=ld hb6;clear hx6 ht6 hext6 hb6))
   go_roundw
   case rel =>
    refine ⟨k+1,fun j=>if j≤k then seq j else ws6,gh6,by go_num,by omega,ld ⟨?_,fun j hj=>?_⟩,?_,ld ?_,(below_drewN' HBK.out n5).trans HB6.out⟩
    ·simp only [Nat.zero_le,if_true];exact hseq.out.1
    ·rcases Nat.lt_or_ge j k with h1 | h1
     ·simp only [if_pos (Nat.le_of_lt h1),if_pos (show j+1≤k by omega)]
      exact hseq.out.2 j h1
     ·have:j=k:=by omega
      subst this
      simp only [Nat.le_refl,if_true,if_neg (show ¬ (j+1≤j) by omega)]
      exact ⟨HT6.out,HNL.out⟩
    ·simp only [if_neg (show ¬ (k+1≤k) by omega)]
     rw [Nat.succ_mul,←Nat.add_assoc];exact HX6.out
    ·simp only [if_neg (show ¬ (k+1≤k) by omega)]
     exact HT6.out.2
   case measure=>simp [intOf];omega
  ·have hyes:¬ Rf.NoLed cf (seq k):=fun hno=>by
    have hk5:k=5*cf.most+5:=by
     rcases Nat.lt_or_ge k (5*cf.most+5) with h1 | h1
     ·exact absurd ⟨h1,hno⟩ hgo
     ·omega
    have h0:=hseq.out.1
    have:=Rf.calm_bound (N:=k) (ws:=seq) (K:=K) (g:=gh3) HCK.out (f:=f2+1) ⟨by omega,by have:=HF2.out.1;omega⟩ (fun j hj=>(hseq.out.2 j hj).1) (by rw [h0];exact HXW.out) (by rw [h0];exact HN3.out) (by rw [h0];exact UPA.out) (by omega) (fun j hj=>by
     rcases Nat.lt_or_ge j k with h1 | h1
     ·exact (hseq.out.2 j h1).2
     ·rw [show j=k by omega];exact hno)
    omega
   have HYES:=ld hyes
   clear hyes
   by_cases hkl:k<5*cf.most+5
   ·have hlt:(k:Int)<5*(cf.most:Int)+5:=by omega
    clear hgo
    go_upto_region 11 with (go_at_call 12;refine (HXK.out.led_yes HYES.out).mono ?_;rintro e w5 ⟨L0,bL0,rfl,hL0,n5,rfl⟩)
    have HXZ:=ld (HXK.out.drewN n5)
    have HBZ:=ld (below_drewN' HBK.out n5)
    clear hL0 HXK HBK c3 hlw
    generalize wr.drewN n5=WZ at HXZ HBZ ⊢
    have hBZ:B≤WZ.heap.size:=Nat.le_trans hBW1 HBZ.out.size
    clear hBr q1 q2
    go_upto_region 14 with (go_at_call 12;refine (HXZ.out.led_yes HYES.out).mono ?_;rintro e w6 ⟨L,bL,rfl,hL,n6,rfl⟩)
    have HXY:=ld (HXZ.out.drewN n6)
    have HBY:=ld (below_drewN' HBZ.out n6)
    clear HXZ HBZ
    generalize WZ.drewN n6=WY at HXY HBY ⊢
    have hBY:B≤WY.heap.size:=Nat.le_trans hBW1 HBY.out.size
    have hnz:(seq k).net.length=0:=by rw [hnk.out];rfl
    go_wp2_with (fail)
    have hbp:Below WY.heap.size WY (((WY.alloc (.cells #[.int .u8 1] 5)).alloc (.cells #[.int .u8 2,.int .u8 3] 5)).alloc (.cells #[.slice (some ⟨WY.heap.size,0,none⟩) 1 1,.slice (some ⟨WY.heap.size+1,0,none⟩) 2 2] 65)):=((below_one WY _).alloc (by simp) _).alloc (by simp;omega) _
    have hdat:=two_data (W:=((WY.alloc (.cells #[.int .u8 1] 5)).alloc (.cells #[.int .u8 2,.int .u8 3] 5)).alloc (.cells #[.slice (some ⟨WY.heap.size,0,none⟩) 1 1,.slice (some ⟨WY.heap.size+1,0,none⟩) 2 2] 65)) (z:=WY.heap.size) (block_alloc (block_alloc (World.alloc_at _ _) _) _) (by have:=block_alloc (World.alloc_at (WY.alloc (.cells #[.int .u8 1] 5)) (.cells #[.int .u8 2,.int .u8 3] 5)) (.cells #[.slice (some ⟨WY.heap.size,0,none⟩) 1 1,.slice (some ⟨WY.heap.size+1,0,none⟩) 2 2] 65);rwa [World.alloc_size] at this) (by have:=World.alloc_at ((WY.alloc (.cells #[.int .u8 1] 5)).alloc (.cells #[.int .u8 2,.int .u8 3] 5)) (.cells #[.slice (some ⟨WY.heap.size,0,none⟩) 1 1,.slice (some ⟨WY.heap.size+1,0,none⟩) 2 2] 65);rwa [World.alloc_size,World.alloc_size] at this)
    have hsz:(((WY.alloc (.cells #[.int .u8 1] 5)).alloc (.cells #[.int .u8 2,.int .u8 3] 5)).alloc (.cells #[.slice (some ⟨WY.heap.size,0,none⟩) 1 1,.slice (some ⟨WY.heap.size+1,0,none⟩) 2 2] 65)).heap.size=WY.heap.size+3:=by simp
    obtain ⟨S,g,sg,net,Fs,hh,hC0,hcal,hss⟩:=HXY.out.cw
    have hC:=hC0.below hbp
    have hbd:=(hC0.node L hL.out.1).bd.1
    have HSS:=ld hss
    refine (cw_propose hC hcal hL.out.1 hL.out.2.1 (by rw [hsz];omega) (by omega) hL.out.2.2.1.1 (fun j=>WY.heap.size≤j∧j≤WY.heap.size+2) _ 2 2 _ (fun j hj=>⟨by rw [hsz];omega,fun hf=>by have:=hbd j hf;omega⟩) hdat rfl (by simp) (by simp) (by simp only [List.length_cons,List.length_nil];omega) _ _ _ _ _ _ _ _ _ _ _ _ _ _).mono ?_
    rintro e w7 ⟨rfl,gh7,hx7,hext7,hok7,hc7⟩
    have hb7:=hC.chgB hc7 (by rw [hsz];omega)
    rw [HSS.out] at hx7
    have HL:=hL
    obtain ⟨ws7,hws7⟩:∃ ws7,ws7=(⟨Rf.setN (seq k).nd (L+1) (Rf.propose cf [[1],[2,3]] ((seq k).nd (L+1))).1,(seq k).net++(Rf.propose cf [[1],[2,3]] ((seq k).nd (L+1))).2⟩:Rf.Wd):=⟨_,rfl⟩
    have HX7:Hid (CWx w7 B bw bs cf (K+k*cf.n+2) true ss ws7 gh7):=ld (by rw [hws7];exact hx7)
    have hrep:Rf.Rep cf (L+1) ((seq k).nd (L+1)).term (((seq k).nd (L+1)).log++[[1],[2,3]].map fun b=>⟨((seq k).nd (L+1)).term,b⟩) ((seq k).nd (L+1)).beat ((seq k).nd (L+1)).elapsed ws7.nd ws7.net:=by
     rw [hws7]
     exact Rf.Rep.proposed HCK.out hL.out.2.2 hnk.out hok7.inv
    have HREP:=ld hrep
    have HB7:Hid (Below B W1 w7):=ld ((HBY.out.trans (hbp.mono hBY)).trans hb7)
    obtain ⟨lg,hlg⟩:∃ lg,lg=((seq k).nd (L+1)).log++[[1],[2,3]].map fun b=>(⟨((seq k).nd (L+1)).term,b⟩:Rf.Ent):=⟨_,rfl⟩
    rw [←hlg] at HREP
    have hn7:ws7.net.length≤100:=by
     have h1:_≤_:=Rf.Few.propose (c:=cf) (s:=(seq k).nd (L+1)) (l:=[[1],[2,3]])
     rw [hws7]
     simp only [List.length_append]
     omega
    have hlog7:(ws7.nd (L+1)).log=lg:=by
     rw [hws7,hlg]
     simp only [Rf.setN_at]
     rfl
    obtain ⟨la,hla⟩:∃ la:Nat,la=(ws7.nd (L+1)).log.length:=⟨_,rfl⟩
    have HLA:=ld hla
    have HLG:=ld hlog7
    have HLL:=ld hlg
    have hlg6:lg.length<65536:=by
     have:=HX7.out.ok.bnd.fin (L+1)
     have e:(ws7.nd (L+1)).fin=(ws7.nd (L+1)).log.length:=rfl
     rw [hlog7] at e
     omega
    clear hbp hdat hsz hC0 hcal hss hC hbd hext7 hok7 hc7 hx7 hb7 hws7 hrep hlg hlog7 hla HXY HBY
    go_upto_region 19 with (fail)
    go_upto_region 20 with (go_at_call 30;refine (HX7.out.last HL.out.1 HL.out.2.1 HLA.out).mono ?_;rintro e w8 ⟨t8,rfl,n8,rfl⟩)
    have hB7:B≤w7.heap.size:=Nat.le_trans hBW1 HB7.out.size
    have HQ:=ld (quiet_any' (HX7.out.drewN n8) HF2.out.1 HF2.out.2 hB7 (by omega) (by omega))
    go_upto_region 22 with (go_at_call 29;refine HQ.out.mono ?_;rintro e w9 ⟨rfl,j9,gh9,hx9,hn9,hext9,hb9⟩)
    obtain ⟨j',g',h1,_,_,hst,_,_⟩:=HREP.out.run (d:=Rf.drawC cf (f2+1)) HCK.out HX7.out.ok hlg6
    rw [Rf.runs_eq h1 hn9] at hst
    obtain ⟨ws9,hws9⟩:∃ ws9,ws9=ws7.run cf (Rf.drawC cf (f2+1)) j9:=⟨_,rfl⟩
    rw [←hws9] at hx9 hn9 hst
    have HX9:=ld hx9
    have HN9:=ld hn9
    have HST:=ld hst
    have HB9:=ld ((below_drewN' HB7.out n8).trans hb9)
    clear h1 hx9 hn9 hst hext9 hb9 hws9 HQ HX7 HB7
    go_wp2_with (fail)
    go_loopw [10] (fun sl wr=>∃ (k2:Nat) (sq:Nat→Rf.Wd) (ghk:Rf.Gh),sl=.int .i64 k2∧k2≤cf.beat+2∧Hid (sq 0=ws9∧∀ j,j<k2→Rf.Tick cf (Rf.drawC cf (f2+1)) (sq j) (sq (j+1)))∧CWx wr B bw bs cf (K+k*cf.n+2+k2*cf.n) true ss (sq k2) ghk∧Hid ((sq k2).net=[])∧Below B W1 wr) (fun sl _=>cf.beat+2-(intOf sl).toNat)
    case atStart=>exact ⟨0,fun _=>ws9,gh9,rfl,Nat.zero_le _,ld ⟨rfl,fun j hj=>by omega⟩,by rw [Nat.zero_mul];exact HX9.out,HN9,HB9.out⟩
    case round =>
     obtain ⟨k2,sq,gh10,rfl,hk2,hsq,hx10,hn10,hb10⟩:=hrel
     have HX10:=ld hx10
     have HB10:=ld hb10
     clear hx10 hb10
     have c4:=HX10.out.nums.2.2.1
     have hlw:=HX10.out.lt
     have hkn3:k2*cf.n≤(cf.beat+2)*cf.n:=Nat.mul_le_mul_right _ hk2
     have hkn4:(cf.beat+2)*cf.n≤14*5:=Nat.mul_le_mul (by omega) hn5.2
     have q1:IntKind.i64.wrap ((cf.beat:Int)+2)=(cf.beat:Int)+2:=IntWalk.i64_in _ (by omega)
     have hBr:B≤wr.heap.size:=Nat.le_trans hBW1 HB10.out.size
     by_cases hlt2:k2<cf.beat+2
     ·have hlt2':(k2:Int)<(cf.beat:Int)+2:=by omega
      have hkn5:K+k*cf.n+2+k2*cf.n+cf.n≤60000:=by omega
      go_wp2_with (go_at_call 17;refine (tick_any' HX10.out HF2.out.1 HF2.out.2 hBr hkn5 hn10.out).mono ?_;rintro e w11 ⟨rfl,ws11,gh11,hx11,ht11,hext11,hb11⟩;have HX11:=ld hx11;have HT11:=ld ht11;have HB11:=ld hb11;clear hx11 ht11 hext11 hb11)
      go_roundw
      case rel =>
       refine ⟨k2+1,fun j=>if j≤k2 then sq j else ws11,gh11,by go_num,by omega,ld ⟨?_,fun j hj=>?_⟩,?_,ld ?_,HB10.out.trans HB11.out⟩
       ·simp only [Nat.zero_le,if_true];exact hsq.out.1
       ·rcases Nat.lt_or_ge j k2 with h1 | h1
        ·simp only [if_pos (Nat.le_of_lt h1),if_pos (show j+1≤k2 by omega)]
         exact hsq.out.2 j h1
        ·have:j=k2:=by omega
         subst this
         simp only [Nat.le_refl,if_true,if_neg (show ¬ (j+1≤j) by omega)]
         exact HT11.out
       ·simp only [if_neg (show ¬ (k2+1≤k2) by omega)]
        rw [Nat.succ_mul,←Nat.add_assoc];exact HX11.out
       ·simp only [if_neg (show ¬ (k2+1≤k2) by omega)]
        exact HT11.out.2
      case measure=>simp [intOf];omega
     ·have hkb:k2=cf.beat+2:=by omega
      have hlt2':¬ ((k2:Int)<(cf.beat:Int)+2):=by omega
      have h0:=hsq.out.1
      obtain ⟨g12,_,hn12,hst12,hcm12⟩:=Rf.Steady.told (N:=k2) (ws:=sq) (K:=K+k*cf.n+2) (g:=gh9) HCK.out (L:=L+1) ⟨by omega,by have:=HL.out.1;omega⟩ (by omega) hsq.out.2 (by rw [h0];exact HX9.out.ok) (by rw [h0];exact HN9.out) (by rw [h0];exact HST.out) (by omega)
      have HST12:=ld hst12
      have HCM12:=ld hcm12
      have hlal:la=lg.length:=by rw [HLA.out,HLG.out]
      have HLAL:=ld hlal
      clear hst12 hcm12 hn12 hlal h0 hkb
      go_wp2_with (fail)
      clear c4 hlw
      go_loopw [11] (fun sl wr2=>∃ k3:Nat,sl=.int .i64 k3∧k3≤cf.n∧wr2=wr) (fun sl _=>cf.n-(intOf sl).toNat)
      case atStart=>exact ⟨0,rfl,Nat.zero_le _,rfl⟩
      case round =>
       obtain ⟨k3,rfl,hk3,rfl⟩:=hrel
       obtain ⟨S,g,sg,net,Fs,hh,hC,hcal,hss⟩:=HX10.out.cw
       obtain ⟨sb,so,hsA,_,_⟩:=hC.seats
       have c6:=vw6 hC.at_.wb
       rw [hsA,hC.cfg.1] at c6
       have hlw:=block_lt hC.at_.wb
       by_cases hlt3:k3<cf.n
       ·have hlt3':(k3:Int)<(cf.n:Int):=by omega
        have hk30:(0:Int)≤(k3:Int):=by omega
        obtain ⟨bk,hbk,hsat,_⟩:=hC.sat hlt3
        have cp:=hC.ptr hsA hbk
        have d8:=vs8 hsat.blk
        rw [(hC.seat k3 hlt3).2.2.1] at d8
        have hlb:=block_lt hsat.blk
        have hcm:=HCM12.out (k3+1) (by omega) (by omega)
        rw [←HLAL.out] at hcm
        obtain ⟨cm,hcmd⟩:∃ cm,cm=((sq k2).nd (k3+1)).commit:=⟨_,rfl⟩
        rw [←hcmd] at hcm d8
        have hncm:¬ ((cm:Int)<(la:Int)):=by omega
        clear hbk hsat hcmd hC hcal hss hsA
        go_wp2_with (fail)
        go_roundw
        case rel=>exact ⟨k3+1,by go_num,by omega,by first | rfl | trivial⟩
        case measure=>simp [intOf];omega
       ·have hlt3':¬ ((k3:Int)<(cf.n:Int)):=by omega
        clear hC hcal hss hsA
        go_wp2_with (go_at_call 22;refine HX10.out.matched.mono ?_;rintro e w13 ⟨rfl,hb13⟩)
        go_ret
        refine ⟨rfl,sq k2,gh10,(HX10.out.below hb13).more (by omega) (by omega),hn10.out,⟨L+1,_,lg,⟨by omega,by have:=HL.out.1;omega⟩,HST12.out,HCM12.out⟩,(HB1.out.trans HB10.out).trans (hb13.mono hBr)⟩
   ·have hlt:¬ ((k:Int)<5*(cf.most:Int)+5):=by omega
    clear hgo
    go_upto_region 11 with (fail)
    have HXZ:=HXK
    have HBZ:=HBK
    clear HXK HBK c3 hlw
    have hwz:wr=wr:=rfl
    generalize wr=WZ at HXZ HBZ ⊢
    have hBZ:B≤WZ.heap.size:=Nat.le_trans hBW1 HBZ.out.size
    clear hBr q1 q2
    go_upto_region 14 with (go_at_call 12;refine (HXZ.out.led_yes HYES.out).mono ?_;rintro e w6 ⟨L,bL,rfl,hL,n6,rfl⟩)
    have HXY:=ld (HXZ.out.drewN n6)
    have HBY:=ld (below_drewN' HBZ.out n6)
    clear HXZ HBZ
    generalize WZ.drewN n6=WY at HXY HBY ⊢
    have hBY:B≤WY.heap.size:=Nat.le_trans hBW1 HBY.out.size
    have hnz:(seq k).net.length=0:=by rw [hnk.out];rfl
    go_wp2_with (fail)
    have hbp:Below WY.heap.size WY (((WY.alloc (.cells #[.int .u8 1] 5)).alloc (.cells #[.int .u8 2,.int .u8 3] 5)).alloc (.cells #[.slice (some ⟨WY.heap.size,0,none⟩) 1 1,.slice (some ⟨WY.heap.size+1,0,none⟩) 2 2] 65)):=((below_one WY _).alloc (by simp) _).alloc (by simp;omega) _
    have hdat:=two_data (W:=((WY.alloc (.cells #[.int .u8 1] 5)).alloc (.cells #[.int .u8 2,.int .u8 3] 5)).alloc (.cells #[.slice (some ⟨WY.heap.size,0,none⟩) 1 1,.slice (some ⟨WY.heap.size+1,0,none⟩) 2 2] 65)) (z:=WY.heap.size) (block_alloc (block_alloc (World.alloc_at _ _) _) _) (by have:=block_alloc (World.alloc_at (WY.alloc (.cells #[.int .u8 1] 5)) (.cells #[.int .u8 2,.int .u8 3] 5)) (.cells #[.slice (some ⟨WY.heap.size,0,none⟩) 1 1,.slice (some ⟨WY.heap.size+1,0,none⟩) 2 2] 65);rwa [World.alloc_size] at this) (by have:=World.alloc_at ((WY.alloc (.cells #[.int .u8 1] 5)).alloc (.cells #[.int .u8 2,.int .u8 3] 5)) (.cells #[.slice (some ⟨WY.heap.size,0,none⟩) 1 1,.slice (some ⟨WY.heap.size+1,0,none⟩) 2 2] 65);rwa [World.alloc_size,World.alloc_size] at this)
    have hsz:(((WY.alloc (.cells #[.int .u8 1] 5)).alloc (.cells #[.int .u8 2,.int .u8 3] 5)).alloc (.cells #[.slice (some ⟨WY.heap.size,0,none⟩) 1 1,.slice (some ⟨WY.heap.size+1,0,none⟩) 2 2] 65)).heap.size=WY.heap.size+3:=by simp
    obtain ⟨S,g,sg,net,Fs,hh,hC0,hcal,hss⟩:=HXY.out.cw
    have hC:=hC0.below hbp
    have hbd:=(hC0.node L hL.out.1).bd.1
    have HSS:=ld hss
    refine (cw_propose hC hcal hL.out.1 hL.out.2.1 (by rw [hsz];omega) (by omega) hL.out.2.2.1.1 (fun j=>WY.heap.size≤j∧j≤WY.heap.size+2) _ 2 2 _ (fun j hj=>⟨by rw [hsz];omega,fun hf=>by have:=hbd j hf;omega⟩) hdat rfl (by simp) (by simp) (by simp only [List.length_cons,List.length_nil];omega) _ _ _ _ _ _ _ _ _ _ _ _ _ _).mono ?_
    rintro e w7 ⟨rfl,gh7,hx7,hext7,hok7,hc7⟩
    have hb7:=hC.chgB hc7 (by rw [hsz];omega)
    rw [HSS.out] at hx7
    have HL:=hL
    obtain ⟨ws7,hws7⟩:∃ ws7,ws7=(⟨Rf.setN (seq k).nd (L+1) (Rf.propose cf [[1],[2,3]] ((seq k).nd (L+1))).1,(seq k).net++(Rf.propose cf [[1],[2,3]] ((seq k).nd (L+1))).2⟩:Rf.Wd):=⟨_,rfl⟩
    have HX7:Hid (CWx w7 B bw bs cf (K+k*cf.n+2) true ss ws7 gh7):=ld (by rw [hws7];exact hx7)
    have hrep:Rf.Rep cf (L+1) ((seq k).nd (L+1)).term (((seq k).nd (L+1)).log++[[1],[2,3]].map fun b=>⟨((seq k).nd (L+1)).term,b⟩) ((seq k).nd (L+1)).beat ((seq k).nd (L+1)).elapsed ws7.nd ws7.net:=by
     rw [hws7]
     exact Rf.Rep.proposed HCK.out hL.out.2.2 hnk.out hok7.inv
    have HREP:=ld hrep
    have HB7:Hid (Below B W1 w7):=ld ((HBY.out.trans (hbp.mono hBY)).trans hb7)
    obtain ⟨lg,hlg⟩:∃ lg,lg=((seq k).nd (L+1)).log++[[1],[2,3]].map fun b=>(⟨((seq k).nd (L+1)).term,b⟩:Rf.Ent):=⟨_,rfl⟩
    rw [←hlg] at HREP
    have hn7:ws7.net.length≤100:=by
     have h1:_≤_:=Rf.Few.propose (c:=cf) (s:=(seq k).nd (L+1)) (l:=[[1],[2,3]])
     rw [hws7]
     simp only [List.length_append]
     omega
    have hlog7:(ws7.nd (L+1)).log=lg:=by
     rw [hws7,hlg]
     simp only [Rf.setN_at]
     rfl
    obtain ⟨la,hla⟩:∃ la:Nat,la=(ws7.nd (L+1)).log.length:=⟨_,rfl⟩
    have HLA:=ld hla
    have HLG:=ld hlog7
    have HLL:=ld hlg
    have hlg6:lg.length<65536:=by
     have:=HX7.out.ok.bnd.fin (L+1)
     have e:(ws7.nd (L+1)).fin=(ws7.nd (L+1)).log.length:=rfl
     rw [hlog7] at e
     omega
    clear hbp hdat hsz hC0 hcal hss hC hbd hext7 hok7 hc7 hx7 hb7 hws7 hrep hlg hlog7 hla HXY HBY
    go_upto_region 19 with (fail)
    go_upto_region 20 with (go_at_call 30;refine (HX7.out.last HL.out.1 HL.out.2.1 HLA.out).mono ?_;rintro e w8 ⟨t8,rfl,n8,rfl⟩)
    have hB7:B≤w7.heap.size:=Nat.le_trans hBW1 HB7.out.size
    have HQ:=ld (quiet_any' (HX7.out.drewN n8) HF2.out.1 HF2.out.2 hB7 (by omega) (by omega))
    go_upto_region 22 with (go_at_call 29;refine HQ.out.mono ?_;rintro e w9 ⟨rfl,j9,gh9,hx9,hn9,hext9,hb9⟩)
    obtain ⟨j',g',h1,_,_,hst,_,_⟩:=HREP.out.run (d:=Rf.drawC cf (f2+1)) HCK.out HX7.out.ok hlg6
    rw [Rf.runs_eq h1 hn9] at hst
    obtain ⟨ws9,hws9⟩:∃ ws9,ws9=ws7.run cf (Rf.drawC cf (f2+1)) j9:=⟨_,rfl⟩
    rw [←hws9] at hx9 hn9 hst
    have HX9:=ld hx9
    have HN9:=ld hn9
    have HST:=ld hst
    have HB9:=ld ((below_drewN' HB7.out n8).trans hb9)
    clear h1 hx9 hn9 hst hext9 hb9 hws9 HQ HX7 HB7
    go_wp2_with (fail)
    go_loopw [10] (fun sl wr=>∃ (k2:Nat) (sq:Nat→Rf.Wd) (ghk:Rf.Gh),sl=.int .i64 k2∧k2≤cf.beat+2∧Hid (sq 0=ws9∧∀ j,j<k2→Rf.Tick cf (Rf.drawC cf (f2+1)) (sq j) (sq (j+1)))∧CWx wr B bw bs cf (K+k*cf.n+2+k2*cf.n) true ss (sq k2) ghk∧Hid ((sq k2).net=[])∧Below B W1 wr) (fun sl _=>cf.beat+2-(intOf sl).toNat)
    case atStart=>exact ⟨0,fun _=>ws9,gh9,rfl,Nat.zero_le _,ld ⟨rfl,fun j hj=>by omega⟩,by rw [Nat.zero_mul];exact HX9.out,HN9,HB9.out⟩
    case round =>
     obtain ⟨k2,sq,gh10,rfl,hk2,hsq,hx10,hn10,hb10⟩:=hrel
     have HX10:=ld hx10
     have HB10:=ld hb10
     clear hx10 hb10
     have c4:=HX10.out.nums.2.2.1
     have hlw:=HX10.out.lt
     have hkn3:k2*cf.n≤(cf.beat+2)*cf.n:=Nat.mul_le_mul_right _ hk2
     have hkn4:(cf.beat+2)*cf.n≤14*5:=Nat.mul_le_mul (by omega) hn5.2
     have q1:IntKind.i64.wrap ((cf.beat:Int)+2)=(cf.beat:Int)+2:=IntWalk.i64_in _ (by omega)
     have hBr:B≤wr.heap.size:=Nat.le_trans hBW1 HB10.out.size
     by_cases hlt2:k2<cf.beat+2
     ·have hlt2':(k2:Int)<(cf.beat:Int)+2:=by omega
      have hkn5:K+k*cf.n+2+k2*cf.n+cf.n≤60000:=by omega
      go_wp2_with (go_at_call 17;refine (tick_any' HX10.out HF2.out.1 HF2.out.2 hBr hkn5 hn10.out).mono ?_;rintro e w11 ⟨rfl,ws11,gh11,hx11,ht11,hext11,hb11⟩;have HX11:=ld hx11;have HT11:=ld ht11;have HB11:=ld hb11;clear hx11 ht11 hext11 hb11)
      go_roundw
      case rel =>
       refine ⟨k2+1,fun j=>if j≤k2 then sq j else ws11,gh11,by go_num,by omega,ld ⟨?_,fun j hj=>?_⟩,?_,ld ?_,HB10.out.trans HB11.out⟩
       ·simp only [Nat.zero_le,if_true];exact hsq.out.1
       ·rcases Nat.lt_or_ge j k2 with h1 | h1
        ·simp only [if_pos (Nat.le_of_lt h1),if_pos (show j+1≤k2 by omega)]
         exact hsq.out.2 j h1
        ·have:j=k2:=by omega
         subst this
         simp only [Nat.le_refl,if_true,if_neg (show ¬ (j+1≤j) by omega)]
         exact HT11.out
       ·simp only [if_neg (show ¬ (k2+1≤k2) by omega)]
        rw [Nat.succ_mul,←Nat.add_assoc];exact HX11.out
       ·simp only [if_neg (show ¬ (k2+1≤k2) by omega)]
        exact HT11.out.2
      case measure=>simp [intOf];omega
     ·have hkb:k2=cf.beat+2:=by omega
      have hlt2':¬ ((k2:Int)<(cf.beat:Int)+2):=by omega
      have h0:=hsq.out.1
      obtain ⟨g12,_,hn12,hst12,hcm12⟩:=Rf.Steady.told (N:=k2) (ws:=sq) (K:=K+k*cf.n+2) (g:=gh9) HCK.out (L:=L+1) ⟨by omega,by have:=HL.out.1;omega⟩ (by omega) hsq.out.2 (by rw [h0];exact HX9.out.ok) (by rw [h0];exact HN9.out) (by rw [h0];exact HST.out) (by omega)
      have HST12:=ld hst12
      have HCM12:=ld hcm12
      have hlal:la=lg.length:=by rw [HLA.out,HLG.out]
      have HLAL:=ld hlal
      clear hst12 hcm12 hn12 hlal h0 hkb
      go_wp2_with (fail)
      clear c4 hlw
      go_loopw [11] (fun sl wr2=>∃ k3:Nat,sl=.int .i64 k3∧k3≤cf.n∧wr2=wr) (fun sl _=>cf.n-(intOf sl).toNat)
      case atStart=>exact ⟨0,rfl,Nat.zero_le _,rfl⟩
      case round =>
       obtain ⟨k3,rfl,hk3,rfl⟩:=hrel
       obtain ⟨S,g,sg,net,Fs,hh,hC,hcal,hss⟩:=HX10.out.cw
       obtain ⟨sb,so,hsA,_,_⟩:=hC.seats
       have c6:=vw6 hC.at_.wb
       rw [hsA,hC.cfg.1] at c6
       have hlw:=block_lt hC.at_.wb
       by_cases hlt3:k3<cf.n
       ·have hlt3':(k3:Int)<(cf.n:Int):=by omega
        have hk30:(0:Int)≤(k3:Int):=by omega
        obtain ⟨bk,hbk,hsat,_⟩:=hC.sat hlt3
        have cp:=hC.ptr hsA hbk
        have d8:=vs8 hsat.blk
        rw [(hC.seat k3 hlt3).2.2.1] at d8
        have hlb:=block_lt hsat.blk
        have hcm:=HCM12.out (k3+1) (by omega) (by omega)
        rw [←HLAL.out] at hcm
        obtain ⟨cm,hcmd⟩:∃ cm,cm=((sq k2).nd (k3+1)).commit:=⟨_,rfl⟩
        rw [←hcmd] at hcm d8
        have hncm:¬ ((cm:Int)<(la:Int)):=by omega
        clear hbk hsat hcmd hC hcal hss hsA
        go_wp2_with (fail)
        go_roundw
        case rel=>exact ⟨k3+1,by go_num,by omega,by first | rfl | trivial⟩
        case measure=>simp [intOf];omega
       ·have hlt3':¬ ((k3:Int)<(cf.n:Int)):=by omega
        clear hC hcal hss hsA
        go_wp2_with (go_at_call 22;refine HX10.out.matched.mono ?_;rintro e w13 ⟨rfl,hb13⟩)
        go_ret
        refine ⟨rfl,sq k2,gh10,(HX10.out.below hb13).more (by omega) (by omega),hn10.out,⟨L+1,_,lg,⟨by omega,by have:=HL.out.1;omega⟩,HST12.out,HCM12.out⟩,(HB1.out.trans HB10.out).trans (hb13.mono hBr)⟩
end
def wholeV (n lo hi:Int):Int:=lo+(if n.tmod (hi-lo+1)<0 then n.tmod (hi-lo+1)+hi-lo+1 else n.tmod (hi-lo+1))
theorem wholeV_in (n:Int) {lo hi:Int} (h:lo≤hi):lo≤wholeV n lo hi∧wholeV n lo hi≤hi:=by
 have hl:=tmod_lo n (m:=hi-lo+1) (by omega)
 have hh:=tmod_hi n (m:=hi-lo+1) (by omega)
 unfold wholeV
 split <;> omega
set_option maxRecDepth 100000 in
set_option maxHeartbeats 1000000 in
theorem whole_any (n lo hi:Int) (w:World) (h0:0≤lo) (h1:lo≤hi) (h2:hi≤1000000) :
  Calls Tryz.prog 24 #[.int .i64 n,.int .i64 lo,.int .i64 hi] w fun e w'=>e=.returned (.int .i64 (wholeV n lo hi))∧w'=w:=by
 obtain ⟨m,hm⟩:∃ m,m=hi-lo+1:=⟨_,rfl⟩
 have hl:=tmod_lo n (m:=m) (by omega)
 have hh:=tmod_hi n (m:=m) (by omega)
 have w1:IntKind.i64.wrap (hi-lo)=hi-lo:=IntWalk.i64_in _ (by omega)
 have w2:IntKind.i64.wrap (hi-lo+1)=m:=by rw [IntWalk.i64_in _ (by omega),hm]
 have hm0:m≠0:=by omega
 have HM:=ld hm
 have HV:Hid (wholeV n lo hi=lo+(if n.tmod m<0 then n.tmod m+hi-lo+1 else n.tmod m)):=ld (by rw [hm];rfl)
 clear hm
 generalize hr:n.tmod m=r at hl hh HV
 have w3:IntKind.i64.wrap (r+hi)=r+hi:=IntWalk.i64_in _ (by have:=HM.out;omega)
 have w4:IntKind.i64.wrap (r+hi-lo)=r+hi-lo:=IntWalk.i64_in _ (by have:=HM.out;omega)
 have w5:IntKind.i64.wrap (r+hi-lo+1)=r+hi-lo+1:=IntWalk.i64_in _ (by have:=HM.out;omega)
 have w6:IntKind.i64.wrap (lo+r)=lo+r:=IntWalk.i64_in _ (by have:=HM.out;omega)
 have w7:IntKind.i64.wrap (lo+(r+hi-lo+1))=lo+(r+hi-lo+1):=IntWalk.i64_in _ (by have:=HM.out;omega)
 by_cases hneg:r<0
 ·go_enter Tryz.func24,Tryz.ntmps24
  go_wp2_with (fail)
  go_ret
  exact ⟨ret_int (by rw [HV.out,if_pos hneg]),rfl⟩
 ·go_enter Tryz.func24,Tryz.ntmps24
  go_wp2_with (fail)
  go_ret
  exact ⟨ret_int (by rw [HV.out,if_neg (Int.not_lt.2 hneg)]),rfl⟩
end Go.Proofs.YtocogcgnahbpkaaGreat
