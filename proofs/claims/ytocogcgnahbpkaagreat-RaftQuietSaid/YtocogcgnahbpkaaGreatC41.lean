import Derived.Test.YtocogcgnahbpkaaGreatC12
import Derived.Test.YtocogcgnahbpkaaGreatC40
namespace Go.Proofs.YtocogcgnahbpkaaGreat
open Go.RowKit
section
variable {w w':World} {S:Nat→Prop} {B bw b i:Nat} {bs:List Nat} {g:VG} {sg:Nat→SG} {net:List (MR×List (LE×List Int))} {Fs:Nat→Nat→Prop} {h:Nat} {cf:Rf.Cfg} {K K':Nat} {ws:Rf.Wd} {gh gh':Rf.Gh} {calm:Bool} {ss:Option Addr×Nat}
set_option maxRecDepth 100000 in
set_option maxHeartbeats 4000000 in
theorem tick_any' (hx:CWx w B bw bs cf K true ss ws gh) {f:Nat} (hf:f<cf.n) (hb:bs[f]?=some b) (hB:B≤w.heap.size) (hKb:K+cf.n≤60000) (hnet:ws.net=[]) :
  Calls Tryz.prog 17 #[.pointer (some ⟨bw,0,none⟩),.pointer (some ⟨b,0,none⟩)] w fun e w'=>e=.returned (.bool true)∧∃ ws' gh',CWx w' B bw bs cf (K+cf.n) true ss ws' gh'∧Rf.Tick cf (Rf.drawC cf (f+1)) ws ws'∧Rf.Ext ws.nd ws'.nd gh gh'∧Below B w w':=by
 have hn5:1≤cf.n∧cf.n≤5:=by obtain ⟨S0,g0,sg0,net0,Fs0,h0,hC0,_,_⟩:=id hx;exact hC0.cok.n
 have HX:=ld hx
 have HB:=ld hb
 have HN:=ld hnet
 clear hx hb hnet
 go_enter Tryz.func17,Tryz.ntmps17
 go_wp2_with (fail)
 go_loopw [5] (fun sl wr=>∃ (k:Nat) (ghk:Rf.Gh),sl=.int .i64 k∧k≤cf.n∧CWx wr B bw bs cf (K+k) true ss (ws.tks cf (Rf.drawC cf (f+1)) (List.range' 1 k)) ghk∧(ws.tks cf (Rf.drawC cf (f+1)) (List.range' 1 k)).net.length≤10*k∧Rf.Ext ws.nd (ws.tks cf (Rf.drawC cf (f+1)) (List.range' 1 k)).nd gh ghk∧Below B w wr) (fun sl _=>cf.n-(intOf sl).toNat)
 case atStart=>exact ⟨0,gh,rfl,Nat.zero_le _,HX.out,by show ws.net.length≤0;rw [HN.out];exact Nat.le_refl _,.refl fun _=>Nat.le_refl _,Below.refl _ _⟩
 case round =>
  obtain ⟨k,ghk,rfl,hkn,hx,hnl,hext,hbw⟩:=hrel
  obtain ⟨S,g,sg,net,Fs,h,hC,hcal,hss⟩:=id hx
  obtain ⟨wk,hwk⟩:∃ wk,wk=ws.tks cf (Rf.drawC cf (f+1)) (List.range' 1 k):=⟨_,rfl⟩
  rw [←hwk] at hC hx hnl hext
  have HWK:=ld hwk
  have HXT:=ld hext
  have HBW:=ld hbw
  have HC:=ld hC
  have HXX:=ld hx
  have HCS:=ld (And.intro hcal hss)
  clear hx hext hbw hC hcal hss hwk
  have hlw:bw<wr.heap.size:=block_lt HC.out.at_.wb
  obtain ⟨sb,so,hsA,hsS,_⟩:=HC.out.seats
  have c6:=vw6 HC.out.at_.wb
  rw [hsA,HC.out.cfg.1] at c6
  have HSA:=ld hsA
  clear hsA hsS
  by_cases hlt:k<cf.n
  ·have hlt':(k:Int)<(cf.n:Int):=by omega
   have hk0:(0:Int)≤(k:Int):=by omega
   obtain ⟨bk,hbk,hsat,hid⟩:=HC.out.sat hlt
   have cp:wr.cell? ⟨sb,so+k,none⟩=some (.pointer (some ⟨bk,0,none⟩)):=HC.out.ptr HSA.out hbk
   have hid2:((k+1:Nat):Int)=(k:Int)+1:=Int.natCast_succ k
   have d0:=vs0 hsat.blk
   rw [hid,hid2] at d0
   have hlb:=block_lt hsat.blk
   have HD:=draw_any HC.out hf HB.out (k+1)
   rw [hid2] at HD
   have HD:=ld HD
   have HBK:=ld hbk
   have hKk:K+k+1≤60000:=by omega
   have hnl2:wk.net.length≤900000000:=by omega
   have HKN:=ld (And.intro hKk (And.intro hnl2 hnl))
   clear hbk hsat hid hid2 hKk hnl2 hnl
   go_wp2_with (first
    | (go_at_call 35;refine HD.out.mono ?_;rintro e w3 ⟨rfl,n3,rfl⟩)
    | (go_at_call 15;refine (cw_tick (HC.out.drewN n3) HCS.out.1 hlt HBK.out (Nat.le_trans hB HBW.out.size) HKN.out.1 HKN.out.2.1 _ _ _ _ _ _ _ _ _ _ _ _ _ _ _).mono ?_;rintro e w4 ⟨rfl,gh4,hx4,hext4,hc4⟩))
   go_roundw
   case rel =>
    have hb4:=(HC.out.drewN n3).chgB hc4 (Nat.le_trans hB HBW.out.size)
    have htk:ws.tks cf (Rf.drawC cf (f+1)) (List.range' 1 (k+1))=⟨Rf.setN wk.nd (k+1) (Rf.tick cf (Rf.drawC cf (f+1) (k+1)) (wk.nd (k+1))).1,wk.net++(Rf.tick cf (Rf.drawC cf (f+1) (k+1)) (wk.nd (k+1))).2⟩:=by
     rw [Rf.tks_succ,←HWK.out];rfl
    have hfew:_≤_:=Rf.Few.tick (c:=cf) (draw:=Rf.drawC cf (f+1) (k+1)) (s:=wk.nd (k+1))
    refine ⟨k+1,gh4,by go_num,by omega,?_,?_,?_,(below_drewN' HBW.out n3).trans hb4⟩
    ·rw [htk,←HCS.out.2];exact hx4.x
    ·rw [htk];simp only [List.length_append];have:=HKN.out.2.2;omega
    ·rw [htk];exact HXT.out.trans hext4
   case measure=>simp [intOf];omega
  ·have hkc:k=cf.n:=by omega
   have hlt':¬ ((k:Int)<(cf.n:Int)):=by omega
   have HK:=ld hkc
   have HQ:=ld (quiet_any' HXX.out hf HB.out (Nat.le_trans hB HBW.out.size) (by omega) (by omega))
   clear hkc hnl
   go_wp2_with (go_at_call 29;refine HQ.out.mono ?_;rintro e w4 ⟨rfl,j,gh4,hx4,hn4,hext4,hb4⟩)
   go_ret
   have hk:=HK.out
   have hwk:wk=Rf.tick1 cf (Rf.drawC cf (f+1)) ws:=by rw [HWK.out,hk];rfl
   refine ⟨rfl,_,gh4,by rw [←hk];exact hx4,⟨⟨j,by rw [←hwk]⟩,hn4⟩,HXT.out.trans hext4,HBW.out.trans hb4⟩
end
set_option maxRecDepth 100000 in
set_option maxHeartbeats 4000000 in
theorem sameLog_no (A B:Option Addr) (c d:Nat) (p q:LE×List Int) (w:World) (hA:Ents w w.heap.size A [p]) (hB:Ents w w.heap.size B [q]) (hi:p.1.idx=q.1.idx) (ht:p.1.term≠q.1.term) :
  Calls Tryz.prog 45 #[.slice A 1 c,.slice B 1 d] w fun e w'=>e=.returned (.bool false)∧∃ k,w'=w.drewN k:=by
 obtain ⟨ba,oa,rfl,_,c0,c1,c2⟩:=ents_at hA (k:=0) (p:=p) rfl
 obtain ⟨bb,ob,rfl,_,d0,d1,d2⟩:=ents_at hB (k:=0) (p:=q) rfl
 rw [←hi] at d0
 rw [Nat.zero_mul,Nat.add_zero] at c0 c1 d0 d1
 have htb:(p.1.term != q.1.term)=true:=by simpa using ht
 have htb2:(p.1.term==q.1.term)=false:=by simpa using ht
 clear hA hB c2 d2 hi
 go_enter Tryz.func45,Tryz.ntmps45
 go_wp2
 go_loopw [5] (fun i wr=>i=.int .i64 0∧wr=w) (fun i _=>0)
 case atStart=>exact ⟨rfl,rfl⟩
 case round =>
  obtain ⟨rfl,rfl⟩:=hrel
  go_upto_region 6 with (fail)
  go_quiet (fail)
  go_wp2
  go_ret
  exact ⟨rfl,_,rfl⟩
theorem lastT_numb (l:List Rf.Ent):lastT (numb 0 l)=(Rf.tmL l l.length:Nat):=by
 unfold lastT Rf.tmL
 rw [numb_len]
 by_cases h0:l.length=0
 ·rw [if_pos h0,List.eq_nil_of_length_eq_zero h0];rfl
 ·rw [if_neg h0,numb0_get]
  have:l.length-1<l.length:=by omega
  rw [List.getElem?_eq_getElem this];rfl
section
variable {w w':World} {S:Nat→Prop} {B bw b i:Nat} {bs:List Nat} {g:VG} {sg:Nat→SG} {net:List (MR×List (LE×List Int))} {Fs:Nat→Nat→Prop} {h:Nat} {cf:Rf.Cfg} {K K':Nat} {ws:Rf.Wd} {gh gh':Rf.Gh} {calm:Bool} {ss:Option Addr×Nat}
theorem CW.lastAt (hC:CW w S B bw bs g sg net Fs h cf K ws gh) (hi:i<cf.n) (hb:bs[i]?=some b):Calls Tryz.prog 30 #[.pointer (some ⟨b,0,none⟩)] w fun e w'=>e=.returned (.tuple #[.int .i64 ((ws.nd (i+1)).log.length:Nat),.int .i64 (Rf.tmL (ws.nd (i+1)).log (ws.nd (i+1)).log.length:Nat)])∧∃ n,w'=w.drewN n:=by
 have h1:=hC.log hi
 have h2:=hC.log_le (i+1)
 have h3:=hC.ok.small
 have:=last_at b (sg (i+1)) S w (hC.at_.seat i b hb).1 hC.at_.bd (by omega)
 rw [h1,(hC.seat i hi).2.2.2.2.2,lastT_numb] at this
 exact this
set_option maxRecDepth 100000 in
set_option maxHeartbeats 4000000 in
theorem best_any (hC:CW w S B bw bs g sg net Fs h cf K ws gh) :
  Calls Tryz.prog 28 #[.pointer (some ⟨bw,0,none⟩)] w fun e w'=>(∃ f b,f<cf.n∧bs[f]?=some b∧e=.returned (.pointer (some ⟨b,0,none⟩))∧∀ j,j<cf.n→Rf.upTo (ws.nd (f+1)).log (ws.nd (j+1)).log)∧∃ n,w'=w.drewN n:=by
 obtain ⟨sb,so,hsA,hsS,_⟩:=hC.seats
 have hn5:=hC.cok.n
 have HC:=ld hC
 have HSA:=ld hsA
 have c6:=vw6 hC.at_.wb
 rw [hsA,hC.cfg.1] at c6
 have hlw:=block_lt hC.at_.wb
 obtain ⟨b0,hb0⟩:∃ b,bs[0]?=some b:=⟨_,List.getElem?_eq_getElem (by rw [hC.len];omega)⟩
 have cp0:w.cell? ⟨sb,so,none⟩=some (.pointer (some ⟨b0,0,none⟩)):=hC.ptr hsA hb0
 have hn0:(0:Int)<(cf.n:Int):=by omega
 have hn0':0<cf.n:=by omega
 have HB0:=ld hb0
 clear hC hsA hsS hb0
 go_enter Tryz.func28,Tryz.ntmps28
 go_wp2_with (fail)
 clear cp0 hn0
 go_loopw [3,4] (fun bp sl wr=>∃ (nq k f bf:Nat),sl=.int .i64 k∧1≤k∧k≤cf.n∧bp=.pointer (some ⟨bf,0,none⟩)∧f<k∧bs[f]?=some bf∧Hid (∀ j,j<k→Rf.upTo (ws.nd (f+1)).log (ws.nd (j+1)).log)∧wr=w.drewN nq) (fun _ sl _=>cf.n-(intOf sl).toNat)
 case atStart=>exact ⟨0,1,0,b0,rfl,Nat.le_refl _,by omega,rfl,by omega,HB0.out,ld fun j hj=>by rw [show j=0 by omega];exact Rf.upTo_refl _,rfl⟩
 case round =>
  obtain ⟨nq,k,f,bf,rfl,hk1,hkn,rfl,hfk,hbf,hup,rfl⟩:=hrel
  have HBF:=ld hbf
  clear hbf
  by_cases hlt:k<cf.n
  ·have hlt':(k:Int)<(cf.n:Int):=by omega
   have hk0:(0:Int)≤(k:Int):=by omega
   obtain ⟨bk,hbk,_,_⟩:=HC.out.sat hlt
   have cp:w.cell? ⟨sb,so+k,none⟩=some (.pointer (some ⟨bk,0,none⟩)):=HC.out.ptr HSA.out hbk
   have HL:Hid (∀ n,Calls Tryz.prog 30 #[.pointer (some ⟨bk,0,none⟩)] (w.drewN n) _):=ld fun n=>(HC.out.drewN n).lastAt hlt hbk
   have HF:Hid (∀ n,Calls Tryz.prog 30 #[.pointer (some ⟨bf,0,none⟩)] (w.drewN n) _):=ld fun n=>(HC.out.drewN n).lastAt (show f<cf.n by omega) HBF.out
   have HBK:=ld hbk
   obtain ⟨xk,hxk⟩:∃ xk,xk=(ws.nd (k+1)).log.length:=⟨_,rfl⟩
   obtain ⟨tk,htk⟩:∃ tk,tk=Rf.tmL (ws.nd (k+1)).log (ws.nd (k+1)).log.length:=⟨_,rfl⟩
   obtain ⟨xf,hxf⟩:∃ xf,xf=(ws.nd (f+1)).log.length:=⟨_,rfl⟩
   obtain ⟨tf,htf⟩:∃ tf,tf=Rf.tmL (ws.nd (f+1)).log (ws.nd (f+1)).log.length:=⟨_,rfl⟩
   rw [←htk,←hxk] at HL
   rw [←htf,←hxf] at HF
   have HXT:=ld (And.intro hxk (And.intro htk (And.intro hxf htf)))
   clear hbk hxk htk hxf htf
   have up1:(tf<tk∨(tk=tf∧xf<xk))→∀ j,j<k+1→Rf.upTo (ws.nd (k+1)).log (ws.nd (j+1)).log:=fun hc j hj=>by
    obtain ⟨e1,e2,e3,e4⟩:=HXT.out
    have hkf:Rf.upTo (ws.nd (k+1)).log (ws.nd (f+1)).log:=by unfold Rf.upTo;rw [←e2,←e4,←e1,←e3];omega
    rcases Nat.lt_or_ge j k with h1 | h1
    ·exact Rf.upTo_trans hkf (hup.out j h1)
    ·rw [show j=k by omega];exact Rf.upTo_refl _
   have up2:¬ (tf<tk∨(tk=tf∧xf<xk))→∀ j,j<k+1→Rf.upTo (ws.nd (f+1)).log (ws.nd (j+1)).log:=fun hc j hj=>by
    obtain ⟨e1,e2,e3,e4⟩:=HXT.out
    rcases Nat.lt_or_ge j k with h1 | h1
    ·exact hup.out j h1
    ·rw [show j=k by omega];unfold Rf.upTo;rw [←e2,←e4,←e1,←e3];omega
   have UP1:=ld up1
   have UP2:=ld up2
   clear up1 up2
   go_upto_region 7 with (first
    | (go_at_call_of 30 (Value.pointer (some (⟨bk,0,none⟩:Addr)));refine (HL.out _).mono ?_;rintro e w2 ⟨rfl,n2,rfl⟩)
    | (go_at_call_of 30 (Value.pointer (some (⟨bf,0,none⟩:Addr)));refine (HF.out _).mono ?_;rintro e w3 ⟨rfl,n3,rfl⟩))
   clear HL HF
   by_cases ha:tf<tk
   ·have ha':(tf:Int)<(tk:Int):=by omega
    have HA:=ld (UP1.out (.inl ha))
    clear ha
    go_wp2_with (fail)
    go_roundw
    case rel=>exact ⟨_,k+1,k,bk,by go_num,by omega,by omega,rfl,by omega,HBK.out,ld HA.out,rfl⟩
    case measure=>simp [intOf];omega
   ·have ha':¬ ((tf:Int)<(tk:Int)):=by omega
    by_cases he:tk=tf
    ·have he':((tk:Int)==(tf:Int))=true:=by rw [he];simp
     by_cases hx:xf<xk
     ·have hx':(xf:Int)<(xk:Int):=by omega
      have HA:=ld (UP1.out (.inr ⟨he,hx⟩))
      clear ha he hx
      go_wp2_with (fail)
      go_roundw
      case rel=>exact ⟨_,k+1,k,bk,by go_num,by omega,by omega,rfl,by omega,HBK.out,ld HA.out,rfl⟩
      case measure=>simp [intOf];omega
     ·have hx':¬ ((xf:Int)<(xk:Int)):=by omega
      have HA:=ld (UP2.out (by omega))
      clear ha he hx
      go_wp2_with (fail)
      go_roundw
      case rel=>exact ⟨_,k+1,f,bf,by go_num,by omega,by omega,rfl,by omega,HBF.out,ld HA.out,rfl⟩
      case measure=>simp [intOf];omega
    ·have he':((tk:Int)==(tf:Int))=false:=by simpa using (by omega:¬ (tk:Int)=(tf:Int))
     have HA:=ld (UP2.out (by omega))
     clear ha he
     go_wp2_with (fail)
     go_roundw
     case rel=>exact ⟨_,k+1,f,bf,by go_num,by omega,by omega,rfl,by omega,HBF.out,ld HA.out,rfl⟩
     case measure=>simp [intOf];omega
  ·have hkc:k=cf.n:=by omega
   have hlt':¬ ((k:Int)<(cf.n:Int)):=by omega
   have HK:=ld hkc
   clear hkc
   go_wp2_with (fail)
   go_ret
   exact ⟨⟨f,by have:=HK.out;omega,bf,HBF.out,rfl,fun j hj=>hup.out j (by rw [HK.out];exact hj)⟩,_,rfl⟩
def LedTo (bs:List Nat) (cf:Rf.Cfg) (ws:Rf.Wd) (v:Value):Prop:=(∃ L b,L<cf.n∧bs[L]?=some b∧v=.pointer (some ⟨b,0,none⟩)∧Rf.Led cf (L+1) (ws.nd (L+1)).term ws.nd)∨(v=.pointer none∧Rf.NoLed cf ws)
set_option maxRecDepth 100000 in
set_option maxHeartbeats 4000000 in
theorem led_any' (hC:CW w S B bw bs g sg net Fs h cf K ws gh) :
  Calls Tryz.prog 12 #[.pointer (some ⟨bw,0,none⟩)] w fun e w'=>(∃ v,e=.returned v∧Hid (LedTo bs cf ws v))∧∃ n,w'=w.drewN n:=by
 obtain ⟨sb,so,hsA,hsS,_⟩:=hC.seats
 have hn5:=hC.cok.n
 have HC:=ld hC
 have HSA:=ld hsA
 have c6:=vw6 hC.at_.wb
 rw [hsA,hC.cfg.1] at c6
 have hlw:=block_lt hC.at_.wb
 have HS:=ld (show ∀ j,Rf.Soft cf (ws.nd j)∧(ws.nd j).id=j from fun j=>⟨hC.ok.soft j,hC.ok.inv.ids j⟩)
 clear hC hsA hsS
 go_enter Tryz.func12,Tryz.ntmps12
 go_wp2_with (fail)
 go_loopw [3,4] (fun lp sl wr=>∃ (k:Nat),sl=.int .i64 k∧k≤cf.n∧wr=w∧Hid ((lp=.pointer none∧∀ j,j<k→(ws.nd (j+1)).role≠4)∨∃ f bf,f<k∧bs[f]?=some bf∧lp=.pointer (some ⟨bf,0,none⟩)∧(ws.nd (f+1)).role=4)) (fun _ sl _=>cf.n-(intOf sl).toNat)
 case atStart=>exact ⟨0,rfl,Nat.zero_le _,rfl,ld (.inl ⟨rfl,fun j hj=>by omega⟩)⟩
 case round =>
  obtain ⟨k,rfl,hkn,rfl,hlp⟩:=hrel
  by_cases hlt:k<cf.n
  ·have hlt':(k:Int)<(cf.n:Int):=by omega
   have hk0:(0:Int)≤(k:Int):=by omega
   obtain ⟨bk,hbk,hsat,hid⟩:=HC.out.sat hlt
   have cp:wr.cell? ⟨sb,so+k,none⟩=some (.pointer (some ⟨bk,0,none⟩)):=HC.out.ptr HSA.out hbk
   have d10:=vs10 hsat.blk
   rw [(HC.out.seat k hlt).2.2.2.1] at d10
   have hlb:=block_lt hsat.blk
   have HBK:=ld hbk
   clear hbk hsat hid
   by_cases h4:(ws.nd (k+1)).role=4
   ·have h4b:(((ws.nd (k+1)).role:Int)==4)=true:=by rw [h4];rfl
    have H4:=ld h4
    clear h4
    go_wp2_with (fail)
    go_roundw
    case rel=>exact ⟨k+1,by go_num,by omega,(by first | rfl | trivial),ld (.inr ⟨k,bk,by omega,HBK.out,rfl,H4.out⟩)⟩
    case measure=>simp [intOf];omega
   ·have h4b:(((ws.nd (k+1)).role:Int)==4)=false:=by simpa using (by omega:¬ ((ws.nd (k+1)).role:Int)=4)
    have H4:=ld h4
    clear h4
    go_wp2_with (fail)
    go_roundw
    case rel =>
     refine ⟨k+1,by go_num,by omega,(by first | rfl | trivial),ld ?_⟩
     rcases hlp.out with ⟨h1,h2⟩ | ⟨f,bf,h1,h2,h3,h4⟩
     ·refine .inl ⟨h1,fun j hj=>?_⟩
      rcases Nat.lt_or_ge j k with h3 | h3
      ·exact h2 j h3
      ·rw [show j=k by omega];exact H4.out
     ·exact .inr ⟨f,bf,by omega,h2,h3,h4⟩
    case measure=>simp [intOf];omega
  ·have hkc:k=cf.n:=by omega
   have hlt':¬ ((k:Int)<(cf.n:Int)):=by omega
   have HK:=ld hkc
   clear hkc
   rcases hlp.out with ⟨rfl,hno⟩ | ⟨f,bf,hfk,hbf,rfl,hr4⟩
   ·have HNO:=ld hno
    clear hno hlp
    go_wp2_with (fail)
    go_ret
    refine ⟨⟨_,rfl,ld (.inr ⟨rfl,?_⟩)⟩,0,rfl⟩
    rintro ⟨L,T,hL,hl⟩
    have:=HNO.out (L-1) (by have:=HK.out;omega)
    rw [show L-1+1=L by omega] at this
    exact this hl.1.1
   ·have HR4:=ld hr4
    have HBF:=ld hbf
    have hfn:f<cf.n:=by have:=HK.out;omega
    have hsf:=HC.out.at_.seat f bf hbf
    have f0:=vs0 hsf.1.blk
    rw [hsf.2,Int.natCast_succ f] at f0
    have f3:=vs3 hsf.1.blk
    rw [(HC.out.seat f hfn).1] at f3
    have hlf:=block_lt hsf.1.blk
    clear hr4 hbf hsf hlp
    go_wp2_with (fail)
    go_loopw [5] (fun sl wr'=>∃ (k2 nq:Nat),sl=.int .i64 k2∧k2≤cf.n∧wr'=wr.drewN nq∧Hid (∀ j,j<k2→(ws.nd (j+1)).leader=f+1∧(ws.nd (j+1)).term=(ws.nd (f+1)).term)) (fun sl _=>cf.n-(intOf sl).toNat)
    case atStart=>exact ⟨0,0,rfl,Nat.zero_le _,rfl,ld fun j hj=>by omega⟩
    case round =>
     obtain ⟨k2,nq,rfl,hk2n,rfl,hall⟩:=hrel
     have noled:∀ j,j<cf.n→((ws.nd (j+1)).leader≠f+1∨(ws.nd (j+1)).term≠(ws.nd (f+1)).term)→Rf.NoLed cf ws:=by
      rintro j hj hne ⟨L,T,hL,hl⟩
      have hf4:=HR4.out
      by_cases hfL:f+1=L
      ·by_cases hjL:j+1=L
       ·have e:j=f:=by omega
        rcases hne with h | h
        ·rw [e,(HS.out (f+1)).1.lead hf4,(HS.out (f+1)).2] at h;exact h rfl
        ·rw [e] at h;exact h rfl
       ·have:=hl.2 (j+1) (by omega) (by omega) hjL
        rcases hne with h | h
        ·exact h (this.2.2.trans hfL.symm)
        ·rw [hfL,hl.1.2] at h;exact h this.1
      ·have:=(hl.2 (f+1) (by omega) (by omega) hfL).2.1
       omega
     have HNL:=ld noled
     clear noled
     by_cases hlt2:k2<cf.n
     ·have hlt2':(k2:Int)<(cf.n:Int):=by omega
      have hk20:(0:Int)≤(k2:Int):=by omega
      obtain ⟨bk,hbk,hsat,hid⟩:=HC.out.sat hlt2
      have cp:wr.cell? ⟨sb,so+k2,none⟩=some (.pointer (some ⟨bk,0,none⟩)):=HC.out.ptr HSA.out hbk
      have d11:=vs11 hsat.blk
      rw [(HC.out.seat k2 hlt2).2.2.2.2.1] at d11
      have d3:=vs3 hsat.blk
      rw [(HC.out.seat k2 hlt2).1] at d3
      have hlb:=block_lt hsat.blk
      clear hbk hsat hid hlt'
      by_cases h1:(ws.nd (k2+1)).leader=f+1
      ·have h1b:(((ws.nd (k2+1)).leader:Int) != (f:Int)+1)=false:=by rw [h1,Int.natCast_succ];simp
       by_cases h2:(ws.nd (k2+1)).term=(ws.nd (f+1)).term
       ·have h2b:(((ws.nd (k2+1)).term:Int) != ((ws.nd (f+1)).term:Int))=false:=by rw [h2];simp
        have H12:=ld (And.intro h1 h2)
        rw [h2] at d3
        rw [h1,Int.natCast_succ] at d11
        clear h1 h2 h1b h2b
        go_upto_region 12 with (fail)
        go_quiet (fail)
        go_wp2_with (fail)
        go_roundw
        case rel =>
         refine ⟨k2+1,_,by go_num,by omega,(by first | rfl | (simp only [World.drewN_drewN];rfl)),ld fun j hj=>?_⟩
         rcases Nat.lt_or_ge j k2 with h3 | h3
         ·exact hall.out j h3
         ·rw [show j=k2 by omega];exact H12.out
        case measure=>simp [intOf];omega
       ·have h2b:(((ws.nd (k2+1)).term:Int) != ((ws.nd (f+1)).term:Int))=true:=by simpa using (by omega:¬ ((ws.nd (k2+1)).term:Int)=((ws.nd (f+1)).term:Int))
        have HN:=ld (HNL.out k2 hlt2 (.inr h2))
        rw [h1,Int.natCast_succ] at d11
        clear h1 h2 h1b
        go_upto_region 12 with (fail)
        go_quiet (fail)
        go_wp2_with (fail)
        go_ret
        exact ⟨⟨_,rfl,ld (.inr ⟨rfl,HN.out⟩)⟩,(by first | exact ⟨_,rfl⟩ | (simp only [World.drewN_drewN];exact ⟨_,rfl⟩))⟩
      ·have h1b:(((ws.nd (k2+1)).leader:Int) != (f:Int)+1)=true:=by simpa using (by omega:¬ ((ws.nd (k2+1)).leader:Int)=(f:Int)+1)
       have HN:=ld (HNL.out k2 hlt2 (.inl h1))
       clear h1
       go_upto_region 12 with (fail)
       go_quiet (fail)
       go_wp2_with (fail)
       go_ret
       exact ⟨⟨_,rfl,ld (.inr ⟨rfl,HN.out⟩)⟩,(by first | exact ⟨_,rfl⟩ | (simp only [World.drewN_drewN];exact ⟨_,rfl⟩))⟩
     ·have hkc2:k2=cf.n:=by omega
      have hlt2':¬ ((k2:Int)<(cf.n:Int)):=by omega
      have HK2:=ld hkc2
      clear hkc2 hlt'
      go_wp2_with (fail)
      go_ret
      refine ⟨⟨_,rfl,ld (.inl ⟨f,bf,hfn,HBF.out,rfl,⟨HR4.out,rfl⟩,fun p h1 h2 h3=>?_⟩)⟩,_,rfl⟩
      have:=hall.out (p-1) (by have:=HK2.out;omega)
      rw [show p-1+1=p by omega] at this
      refine ⟨this.2,?_,this.1⟩
      have hs:=HS.out p
      have hr:=hs.1.role
      by_cases h4:(ws.nd p).role=4
      ·have:=hs.1.lead h4;omega
      ·by_cases h23:(ws.nd p).role=2∨(ws.nd p).role=3
       ·have:=hs.1.pre h23;omega
       ·omega
end
section
variable {w w':World} {S:Nat→Prop} {B bw b i:Nat} {bs:List Nat} {g:VG} {sg:Nat→SG} {net:List (MR×List (LE×List Int))} {Fs:Nat→Nat→Prop} {h:Nat} {cf:Rf.Cfg} {K K':Nat} {ws:Rf.Wd} {gh gh':Rf.Gh} {calm:Bool} {ss:Option Addr×Nat}
set_option maxRecDepth 100000 in
set_option maxHeartbeats 20000000 in
theorem matched_any (hC:CW w S B bw bs g sg net Fs h cf K ws gh) :
  Calls Tryz.prog 22 #[.pointer (some ⟨bw,0,none⟩)] w fun e w'=>e=.returned (.bool true)∧Below w.heap.size w w':=by
 obtain ⟨sb,so,hsA,hsS,_⟩:=hC.seats
 have hn5:=hC.cok.n
 have HC:=ld hC
 have HSA:=ld hsA
 have HC6:Hid (∀ W,Below w.heap.size w W→W.cell? ⟨bw,6,none⟩=some (.slice (some ⟨sb,so,none⟩) cf.n g.sc)∧bw<W.heap.size):=ld fun W hW=>by
  have h6:=vw6 (hC.below hW).at_.wb
  rw [hsA,hC.cfg.1] at h6
  exact ⟨h6,block_lt (hC.below hW).at_.wb⟩
 have HCP:Hid (∀ W k b,Below w.heap.size w W→bs[k]?=some b→W.cell? ⟨sb,so+k,none⟩=some (.pointer (some ⟨b,0,none⟩))):=ld fun W k b hW hb=>(hC.below hW).ptr hsA hb
 have HCS:Hid (∀ W k b,Below w.heap.size w W→bs[k]?=some b→SAt W S b (sg (k+1))∧(∀ j,S j→j<W.heap.size)):=ld fun W k b hW hb=>⟨((hC.below hW).at_.seat k b hb).1,(hC.below hW).at_.bd⟩
 have HLA:Hid (∀ W k b,Below w.heap.size w W→k<cf.n→bs[k]?=some b→Calls Tryz.prog 30 #[.pointer (some ⟨b,0,none⟩)] W _):=ld fun W k b hW hk hb=>(hC.below hW).lastAt hk hb
 have HLL:Hid (∀ k,k<cf.n→(sg (k+1)).dl.length=(ws.nd (k+1)).log.length∧(ws.nd (k+1)).log.length≤65536):=ld fun k hk=>⟨hC.log hk,by have:=hC.log_le (k+1);have:=hC.ok.small;omega⟩
 clear hC hsA hsS
 go_enter Tryz.func22,Tryz.ntmps22
 go_wp2_with (fail)
 go_loopw [3] (fun sl wr=>∃ i:Nat,sl=.int .i64 i∧i≤cf.n∧Below w.heap.size w wr) (fun sl _=>cf.n-(intOf sl).toNat)
 case atStart=>exact ⟨0,rfl,Nat.zero_le _,Below.refl _ _⟩
 case round =>
  obtain ⟨i,rfl,hin,hb⟩:=hrel
  have HB1:=ld hb
  clear hb
  obtain ⟨c6,hlw⟩:=HC6.out _ HB1.out
  by_cases hlt:i<cf.n
  ·have hlt':(i:Int)<(cf.n:Int):=by omega
   have hi0:(0:Int)≤(i:Int):=by omega
   go_wp2_with (fail)
   clear c6 hlw
   go_loopw [4] (fun sl wr=>∃ k:Nat,sl=.int .i64 k∧k≤i∧Below w.heap.size w wr) (fun sl _=>i-(intOf sl).toNat)
   case atStart=>exact ⟨0,rfl,Nat.zero_le _,HB1.out⟩
   case round =>
    obtain ⟨k,rfl,hki,hb⟩:=hrel
    have HB2:=ld hb
    clear hb HB1
    by_cases hkl:k<i
    ·have hkl':(k:Int)<(i:Int):=by omega
     have hk0:(0:Int)≤(k:Int):=by omega
     have hkn:(k:Int)<(cf.n:Int):=by omega
     obtain ⟨c6,hlw⟩:=HC6.out _ HB2.out
     obtain ⟨ba,hba,_,_⟩:=HC.out.sat hlt
     obtain ⟨bb,hbb,_,_⟩:=HC.out.sat (show k<cf.n by omega)
     have cpa:=HCP.out _ i ba HB2.out hba
     have cpb:=HCP.out _ k bb HB2.out hbb
     have HBA:=ld (And.intro hba hbb)
     have HLAST:=ld (HLA.out _ i ba HB2.out hlt hba)
     clear hba hbb
     obtain ⟨la,hla⟩:∃ la,la=(ws.nd (i+1)).log.length:=⟨_,rfl⟩
     rw [←hla] at HLAST
     have HLAE:=ld hla
     have hla6:la≤65536:=by rw [hla];exact (HLL.out i hlt).2
     clear hla
     go_wp2_with (go_at_call 30;refine HLAST.out.mono ?_;rintro e w3 ⟨rfl,n3,rfl⟩)
     clear c6 hlw cpa cpb HLAST
     go_loopw [9,10] (fun sm sl wr=>∃ (x:Nat) (s:Bool),sl=.int .i64 x∧x≤la∧sm=.bool s∧Below w.heap.size w wr∧Hid (s=true→x≤(ws.nd (k+1)).log.length∧(ws.nd (i+1)).log.take x=(ws.nd (k+1)).log.take x)) (fun _ sl _=>(intOf sl).toNat)
     case atStart=>exact ⟨la,false,rfl,Nat.le_refl _,rfl,below_drewN' HB2.out _,ld fun h=>absurd h (by decide)⟩
     case round =>
      obtain ⟨x,s,rfl,hxl,rfl,hb,hsame⟩:=hrel
      have HB3:=ld hb
      clear hb HB2
      obtain ⟨hsa,hbd⟩:=HCS.out _ i ba HB3.out HBA.out.1
      obtain ⟨hsb,_⟩:=HCS.out _ k bb HB3.out HBA.out.2
      have a5:=vs5 hsa.blk
      have b5:=vs5 hsb.blk
      have hlba:=block_lt hsa.blk
      have hlbb:=block_lt hsb.blk
      clear hsa hsb hbd
      by_cases hx0:x=0
      ·subst hx0
       go_wp2_with (fail)
       go_roundw
       case rel=>exact ⟨k+1,by go_num,by omega,HB3.out⟩
       case measure=>first | (simp [intOf];done) | (simp [intOf];omega)
      ·obtain ⟨j,rfl⟩:∃ j,x=j+1:=⟨x-1,by omega⟩
       have hx1:(0:Int)<(j:Int)+1:=by omega
       have hjx:IntKind.i64.wrap ((j:Int)+1-1)=(j:Int):=by rw [IntWalk.i64_in _ (by omega)];omega
       have hcx:((j+1:Nat):Int)=(j:Int)+1:=Int.natCast_succ j
       clear hx0
       obtain ⟨p,hp⟩:∃ p,(sg (i+1)).dl[j]?=some p:=⟨_,List.getElem?_eq_getElem (by rw [(HLL.out i hlt).1,←HLAE.out];omega)⟩
       have HP:=ld hp
       clear hp
       rw [hcx]
       go_wp2_with (fail)
       clear a5 b5 hlba hlbb
       refine (entry_at ba (sg (i+1)) S j p wr (HCS.out _ i ba HB3.out HBA.out.1).1 (HCS.out _ i ba HB3.out HBA.out.1).2 HP.out (by rw [(HLL.out i hlt).1];have:=(HLL.out i hlt).2;omega)).mono ?_
       rintro e w1 ⟨rfl,hb1⟩
       unfold encK
       go_wp2_with (fail)
       have hb2:Below wr.heap.size wr (w1.alloc (.cells #[.int .i64 p.1.idx,.int .i64 p.1.term,.slice p.1.A p.1.n p.1.c] 67)):=hb1.alloc hb1.size _
       have hx2:=World.alloc_at w1 (.cells #[.int .i64 p.1.idx,.int .i64 p.1.term,.slice p.1.A p.1.n p.1.c] 67)
       obtain ⟨y1,hy1⟩:∃ y1,y1=w1.heap.size:=⟨_,rfl⟩
       rw [←hy1] at hx2
       rw [←hy1]
       clear hy1 hb1
       generalize w1.alloc (.cells #[.int .i64 p.1.idx,.int .i64 p.1.term,.slice p.1.A p.1.n p.1.c] 67)=W2 at hb2 hx2 ⊢
       have HX2:=ld hx2
       have HBW2:=ld (HB3.out.trans (hb2.mono HB3.out.size))
       clear hx2 hb2
       by_cases hth:j<(ws.nd (k+1)).log.length
       ·obtain ⟨q,hq⟩:∃ q,(sg (k+1)).dl[j]?=some q:=⟨_,List.getElem?_eq_getElem (by rw [(HLL.out k (by omega)).1];exact hth)⟩
        have HQ:=ld hq
        clear hq
        refine (entry_at bb (sg (k+1)) S j q W2 (HCS.out _ k bb HBW2.out HBA.out.2).1 (HCS.out _ k bb HBW2.out HBA.out.2).2 HQ.out (by rw [(HLL.out k (by omega)).1];have:=(HLL.out k (by omega)).2;omega)).mono ?_
        rintro e w3 ⟨rfl,hb3⟩
        unfold encK
        have hx3:=(hb3.block y1 (block_lt HX2.out)).trans HX2.out
        go_upto_region 17 with (fail)
        have hb4:Below W2.heap.size W2 (w3.alloc (.cells #[.int .i64 q.1.idx,.int .i64 q.1.term,.slice q.1.A q.1.n q.1.c] 67)):=hb3.alloc hb3.size _
        have hx4:=block_alloc hx3 (.cells #[.int .i64 q.1.idx,.int .i64 q.1.term,.slice q.1.A q.1.n q.1.c] 67)
        have hz4:=World.alloc_at w3 (.cells #[.int .i64 q.1.idx,.int .i64 q.1.term,.slice q.1.A q.1.n q.1.c] 67)
        obtain ⟨y2,hy2⟩:∃ y2,y2=w3.heap.size:=⟨_,rfl⟩
        rw [←hy2] at hz4
        rw [←hy2]
        clear hy2 hb3 hx3
        generalize w3.alloc (.cells #[.int .i64 q.1.idx,.int .i64 q.1.term,.slice q.1.A q.1.n q.1.c] 67)=W4 at hb4 hx4 hz4 ⊢
        have HBW4:=ld (HBW2.out.trans (hb4.mono HBW2.out.size))
        obtain ⟨a0,a1,a2⟩:=cells3 hx4
        obtain ⟨z0,z1,z2⟩:=cells3 hz4
        have hl1:=block_lt hx4
        have hl2:=block_lt hz4
        clear hb4 hx4 hz4
        obtain ⟨ei,hei⟩:∃ e,(ws.nd (i+1)).log[j]?=some e:=⟨_,List.getElem?_eq_getElem (by rw [←HLAE.out];omega)⟩
        obtain ⟨ek,hek⟩:∃ e,(ws.nd (k+1)).log[j]?=some e:=⟨_,List.getElem?_eq_getElem hth⟩
        have facts:con p=⟨(j:Int)+1,ei.term,ei.data⟩∧con q=⟨(j:Int)+1,ek.term,ek.data⟩:=by
         have h1:=congrArg (fun l:List E=>l[j]?) (HC.out.seat i hlt).2.2.2.2.2
         have h2:=congrArg (fun l:List E=>l[j]?) (HC.out.seat k (show k<cf.n by omega)).2.2.2.2.2
         simp only [List.getElem?_map,HP.out,HQ.out,Option.map_some,numb0_get,hei,hek,Option.some.injEq] at h1 h2
         exact ⟨h1,h2⟩
        have e1:=congrArg E.term facts.1
        have e2:=congrArg E.term facts.2
        simp only [con] at e1 e2
        have hpq:p.1.term=q.1.term→con p=con q∧(ws.nd (i+1)).log.take (j+1)=(ws.nd (k+1)).log.take (j+1):=fun he=>by
         have h3:Rf.tmL (ws.nd (i+1)).log (j+1)=Rf.tmL (ws.nd (k+1)).log (j+1):=by
          unfold Rf.tmL
          rw [if_neg (by omega),if_neg (by omega),Nat.add_sub_cancel,hei,hek]
          show ei.term=ek.term
          omega
         have h4:=HC.out.ok.inv.matched (i+1) (k+1) (k:=j+1) (by omega) (by rw [←HLAE.out];exact hxl) (by omega) h3
         refine ⟨?_,h4⟩
         have h5:=congrArg (fun l:List Rf.Ent=>l[j]?) h4
         simp only [List.getElem?_take,if_pos (Nat.lt_succ_self j),hei,hek,Option.some.injEq] at h5
         rw [facts.1,facts.2,h5]
        have hidx:p.1.idx=q.1.idx:=by
         have e1:=congrArg E.idx facts.1
         have e2:=congrArg E.idx facts.2
         simp only [con] at e1 e2
         omega
        have hsame':s=true→p.1.term=q.1.term:=fun hs=>by
         have h4:=(hsame.out hs).2
         have h5:=congrArg (fun l:List Rf.Ent=>l[j]?) h4
         simp only [List.getElem?_take,if_pos (Nat.lt_succ_self j),hei,hek,Option.some.injEq] at h5
         rw [e1,e2,h5]
        have HPQ:=ld hpq
        have HSM:=ld hsame'
        have HIX:=ld hidx
        have HTH:=ld hth
        have hents:∀ W,Below w.heap.size w W→∀ i1 i2,W.heap[i1]?=some (.cells #[.int .i64 p.1.idx,.int .i64 p.1.term,.slice p.1.A p.1.n p.1.c] 67 (0,0))→W.heap[i2]?=some (.cells #[.int .i64 q.1.idx,.int .i64 q.1.term,.slice q.1.A q.1.n q.1.c] 67 (0,0))→Ents W W.heap.size (some ⟨i1,0,none⟩) [p]∧Ents W W.heap.size (some ⟨i2,0,none⟩) [q]:=fun W hW i1 i2 h1 h2=>by
         have hp':=(HCS.out W i ba hW HBA.out.1).1.dl.each _ (List.mem_of_getElem? HP.out)
         have hq':=(HCS.out W k bb hW HBA.out.2).1.dl.each _ (List.mem_of_getElem? HQ.out)
         have hbd:=(HCS.out W k bb hW HBA.out.2).2
         exact ⟨ents_one' h1 hp'.1 hbd (block_lt h1) hp'.2.1 hp'.2.2,ents_one' h2 hq'.1 hbd (block_lt h2) hq'.2.1 hq'.2.2⟩
        have HEN:=ld hents
        clear facts hpq hsame' hidx hents hth e1 e2 hei hek
        go_wp2_with (fail)
        have hw6:Below w.heap.size w ((W4.alloc (.cells #[.int .i64 p.1.idx,.int .i64 p.1.term,.slice p.1.A p.1.n p.1.c] 67)).alloc (.cells #[.int .i64 q.1.idx,.int .i64 q.1.term,.slice q.1.A q.1.n q.1.c] 67)):=(HBW4.out.alloc HBW4.out.size _).alloc (le_alloc HBW4.out.size _) _
        have hE:=HEN.out _ hw6 W4.heap.size (W4.heap.size+1) (block_alloc (World.alloc_at W4 (.cells #[.int .i64 p.1.idx,.int .i64 p.1.term,.slice p.1.A p.1.n p.1.c] 67)) (.cells #[.int .i64 q.1.idx,.int .i64 q.1.term,.slice q.1.A q.1.n q.1.c] 67)) (by have:=World.alloc_at (W4.alloc (.cells #[.int .i64 p.1.idx,.int .i64 p.1.term,.slice p.1.A p.1.n p.1.c] 67)) (.cells #[.int .i64 q.1.idx,.int .i64 q.1.term,.slice q.1.A q.1.n q.1.c] 67);rwa [World.alloc_size] at this)
        have HW6:=ld hw6
        have HE:=ld hE
        clear hw6 hE
        by_cases hte:p.1.term=q.1.term
        ·obtain ⟨hcon,htk⟩:=HPQ.out hte
         have HTK:=ld htk
         have hteb:(p.1.term==q.1.term)=true:=by rw [hte];simp
         have HCON:=ld hcon
         clear hcon htk hte
         refine (sameLog_yes _ _ 1 1 1 1 [p] [q] _ HE.out.1 rfl HE.out.2 rfl (by simp) (by simp [HCON.out])).mono ?_
         rintro e w7 ⟨rfl,n7,rfl⟩
         cases s
         all_goals
          go_wp2_with (fail)
          go_roundw
          case rel=>exact ⟨j,true,by go_num,by omega,rfl,below_drewN' HW6.out _,ld fun _=>⟨by have:=HTH.out;omega,by have h1:=HTK.out;have h2:=congrArg (List.take j) h1;rwa [List.take_take,List.take_take,Nat.min_eq_left (Nat.le_succ j)] at h2⟩⟩
          case measure=>first | (simp [intOf];done) | (simp [intOf];omega)
        ·have hsf:s=false:=by cases s;rfl;exact absurd (HSM.out rfl) hte
         have hteb:(p.1.term==q.1.term)=false:=by simpa using hte
         have HTE:=ld hte
         subst hsf
         clear hte
         refine (sameLog_no _ _ 1 1 p q _ HE.out.1 HE.out.2 HIX.out HTE.out).mono ?_
         rintro e w7 ⟨rfl,n7,rfl⟩
         go_wp2_with (fail)
         go_roundw
         case rel=>exact ⟨j,false,by go_num,by omega,rfl,below_drewN' HW6.out _,ld fun h=>absurd h (by decide)⟩
         case measure=>first | (simp [intOf];done) | (simp [intOf];omega)
       ·refine (entry_no bb (sg (k+1)) S j W2 (HCS.out _ k bb HBW2.out HBA.out.2).1 (by rw [(HLL.out k (by omega)).1];omega) (by omega)).mono ?_
        rintro e w3 ⟨rfl,hb3⟩
        have hsf:s=false:=by cases s;rfl;exact absurd (hsame.out rfl).1 (by omega)
        subst hsf
        clear hth
        go_wp2_with (fail)
        go_roundw
        case rel=>exact ⟨j,false,by go_num,by omega,rfl,(HBW2.out.trans (hb3.mono HBW2.out.size)).alloc (by have:=HBW2.out.size;have:=hb3.size;omega) _,ld fun h=>absurd h (by decide)⟩
        case measure=>first | (simp [intOf];done) | (simp [intOf];omega)
    ·have hkl':¬ ((k:Int)<(i:Int)):=by omega
     go_wp2_with (fail)
     go_roundw
     case rel=>exact ⟨i+1,by go_num,by omega,HB2.out⟩
     case measure=>first | (simp [intOf];done) | (simp [intOf];omega)
  ·have hlt':¬ ((i:Int)<(cf.n:Int)):=by omega
   go_wp2_with (fail)
   go_ret
   exact ⟨rfl,HB1.out⟩
end
section
variable {w w':World} {S:Nat→Prop} {B bw b i:Nat} {bs:List Nat} {g:VG} {sg:Nat→SG} {net:List (MR×List (LE×List Int))} {Fs:Nat→Nat→Prop} {h:Nat} {cf:Rf.Cfg} {K K':Nat} {ws:Rf.Wd} {gh gh':Rf.Gh} {calm:Bool} {ss:Option Addr×Nat}
theorem CWx.more (hx:CWx w B bw bs cf K calm ss ws gh) (hK:K≤K') (h2:K'<65536):CWx w B bw bs cf K' calm ss ws gh:=by
 obtain ⟨S,g,sg,net,Fs,h,hC,h1⟩:=hx
 exact ⟨S,g,sg,net,Fs,h,{ hC with ok:=hC.ok.more hK h2,nm:=hC.nm.more hK },h1⟩
theorem CWx.cw (hx:CWx w B bw bs cf K calm ss ws gh):∃ S g sg net Fs h,CW w S B bw bs g sg net Fs h cf K ws gh∧g.calm=calm∧(g.sA,g.sc)=ss:=hx
theorem CWx.drewN (hx:CWx w B bw bs cf K calm ss ws gh) (n:Nat):CWx (w.drewN n) B bw bs cf K calm ss ws gh:=hx.below (below_drewN' (Below.refl _ _) _)
theorem CWx.lt (hx:CWx w B bw bs cf K calm ss ws gh):bw<w.heap.size:=by
 obtain ⟨S,g,sg,net,Fs,h,hC,h1⟩:=hx
 exact block_lt hC.at_.wb
theorem CWx.cok (hx:CWx w B bw bs cf K calm ss ws gh):Rf.CfgOK cf:=by
 obtain ⟨S,g,sg,net,Fs,h,hC,h1⟩:=hx
 exact hC.cok
theorem CWx.ok (hx:CWx w B bw bs cf K calm ss ws gh):Rf.Ok cf K ws gh:=by
 obtain ⟨S,g,sg,net,Fs,h,hC,h1⟩:=hx
 exact hC.ok
theorem CWx.out (hx:CWx w B bw bs cf K calm ss ws gh):∀ p,¬ (1≤p∧p≤cf.n)→(ws.nd p).log=[]:=by
 obtain ⟨S,g,sg,net,Fs,h,hC,h1⟩:=hx
 exact hC.out
theorem CWx.best (hx:CWx w B bw bs cf K calm ss ws gh):Calls Tryz.prog 28 #[.pointer (some ⟨bw,0,none⟩)] w fun e w'=>(∃ v,e=.returned v∧Hid (∃ f b,f<cf.n∧bs[f]?=some b∧v=.pointer (some ⟨b,0,none⟩)∧∀ j,j<cf.n→Rf.upTo (ws.nd (f+1)).log (ws.nd (j+1)).log))∧∃ n,w'=w.drewN n:=by
 obtain ⟨S,g,sg,net,Fs,h,hC,h1⟩:=hx
 refine (best_any hC).mono ?_
 rintro e w' ⟨⟨f,b,h1,h2,rfl,h3⟩,n,rfl⟩
 exact ⟨⟨_,rfl,ld ⟨f,b,h1,h2,rfl,h3⟩⟩,n,rfl⟩
theorem CWx.led (hx:CWx w B bw bs cf K calm ss ws gh):Calls Tryz.prog 12 #[.pointer (some ⟨bw,0,none⟩)] w fun e w'=>(∃ v,e=.returned v∧Hid (LedTo bs cf ws v))∧∃ n,w'=w.drewN n:=by
 obtain ⟨S,g,sg,net,Fs,h,hC,h1⟩:=hx
 exact led_any' hC
theorem CWx.matched (hx:CWx w B bw bs cf K calm ss ws gh):Calls Tryz.prog 22 #[.pointer (some ⟨bw,0,none⟩)] w fun e w'=>e=.returned (.bool true)∧Below w.heap.size w w':=by
 obtain ⟨S,g,sg,net,Fs,h,hC,h1⟩:=hx
 exact matched_any hC
theorem CWx.calmed (hx:CWx w B bw bs cf K calm ss ws gh) (hB:B≤w.heap.size) (z:Bool):(∃ u,w.cell? ⟨bw,13,none⟩=some (.bool u))∧(∀ o,w.frozen? ⟨bw,o,none⟩=false)∧CWx (w.setCell ⟨bw,13,none⟩ (.bool z)) B bw bs cf K z ss ws gh∧Below B w (w.setCell ⟨bw,13,none⟩ (.bool z)):=by
 obtain ⟨S,g,sg,net,Fs,h,hC,h1,h2⟩:=hx
 have hbw:∀ j,j=bw→¬ S j∧∀ k,k<cf.n→¬ Fs k j:=fun j hj=>⟨fun hs=>hC.at_.st j hs (.inl hj),fun k hk hf=>(hC.apart k hk j hf).2.1 (.inl hj)⟩
 refine ⟨⟨_,vw13 hC.at_.wb⟩,frozen_block hC.at_.wb,⟨S,{ g with calm:=z },sg,net,Fs,h,?_,rfl,h2⟩,?_⟩
 ·exact ⟨hC.at_.recalm (chg1 Chg.refl _) (by rw [block_setCell hC.at_.wb];rfl),hC.cfg,fun k hk=>(hC.node k hk).keep (Nat.le_of_eq (by simp only [World.setCell,Array.size_modify])) fun j hj _=>Below.heap_setCell _ _ _ _ fun (e:j=bw)=>(hbw j e).2 k hk hj,hC.apart,hC.base,hC.seat,hC.net,⟨hC.inv.high,hC.inv.le,hC.inv.v,hC.inv.l,hC.inv.k,hC.inv.n⟩,hC.cmh,hC.cok,hC.ok,hC.h3,hC.tame,hC.nm,hC.out⟩
 ·exact hC.chgB ((Chg.refl).setCell (p:=⟨bw,13,none⟩) (.inl (.inl (.inl rfl))) _) hB
theorem CWx.nums (hx:CWx w B bw bs cf K calm ss ws gh):w.cell? ⟨bw,2,none⟩=some (.int .i64 cf.least)∧w.cell? ⟨bw,3,none⟩=some (.int .i64 cf.most)∧w.cell? ⟨bw,4,none⟩=some (.int .i64 cf.beat)∧w.cell? ⟨bw,5,none⟩=some (.int .i64 cf.batch):=by
 obtain ⟨S,g,sg,net,Fs,h,hC,h1,h2⟩:=hx
 have c:=hC.cfg
 have a:=vw2 hC.at_.wb
 have b:=vw3 hC.at_.wb
 have d:=vw4 hC.at_.wb
 have e:=vw5 hC.at_.wb
 rw [c.2.1] at a
 rw [c.2.2.1] at b
 rw [c.2.2.2.1] at d
 rw [c.2.2.2.2] at e
 exact ⟨a,b,d,e⟩
theorem two_data {W:World} {z:Nat} (h0:W.heap[z]?=some (.cells #[.int .u8 1] 5 (0,0))) (h1:W.heap[z+1]?=some (.cells #[.int .u8 2,.int .u8 3] 5 (0,0))) (h2:W.heap[z+2]?=some (.cells #[.slice (some ⟨z,0,none⟩) 1 1,.slice (some ⟨z+1,0,none⟩) 2 2] 65 (0,0))) :
  DataS W (fun j=>z≤j∧j≤z+2) (some ⟨z+2,0,none⟩) [(⟨some ⟨z,0,none⟩,1,1⟩,[1]),(⟨some ⟨z+1,0,none⟩,2,2⟩,[2,3])]:=by
 refine ⟨.inr ⟨z+2,0,rfl,⟨by omega,by omega⟩,fun k x hx j v hv=>?_⟩,fun p hp=>?_⟩
 ·match k,hx with
  | 0,hx=>simp at hx;subst hx;match j,hv with | 0,hv=>simp [encBR] at hv;subst hv;exact cell_block h2 0 _ rfl
  | 1,hx=>simp at hx;subst hx;match j,hv with | 0,hv=>simp [encBR] at hv;subst hv;exact cell_block h2 1 _ rfl
  | k+2,hx=>simp at hx
 ·simp only [List.mem_cons,List.not_mem_nil,or_false] at hp
  rcases hp with rfl | rfl
  ·refine ⟨.inr ⟨z,0,rfl,⟨by omega,by omega⟩,fun k x hx j v hv=>?_⟩,rfl,by simp⟩
   match k,hx with
   | 0,hx=>simp at hx;subst hx;match j,hv with | 0,hv=>simp [encB] at hv;subst hv;exact cell_block h0 0 _ rfl
   | k+1,hx=>simp at hx
  ·refine ⟨.inr ⟨z+1,0,rfl,⟨by omega,by omega⟩,fun k x hx j v hv=>?_⟩,rfl,by simp⟩
   match k,hx with
   | 0,hx=>simp at hx;subst hx;match j,hv with | 0,hv=>simp [encB] at hv;subst hv;exact cell_block h1 0 _ rfl
   | 1,hx=>simp at hx;subst hx;match j,hv with | 0,hv=>simp [encB] at hv;subst hv;exact cell_block h1 1 _ rfl
   | k+2,hx=>simp at hx
end
end Go.Proofs.YtocogcgnahbpkaaGreat
