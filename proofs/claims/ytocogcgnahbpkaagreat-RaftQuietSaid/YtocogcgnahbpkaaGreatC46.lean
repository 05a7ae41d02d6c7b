import Derived.Test.YtocogcgnahbpkaaGreatC45
namespace Go.Proofs.YtocogcgnahbpkaaGreat
open Go.RowKit
section
variable {w w':World} {S:Nat→Prop} {B bw b i:Nat} {bs:List Nat} {g:VG} {sg:Nat→SG} {net:List (MR×List (LE×List Int))} {Fs:Nat→Nat→Prop} {h:Nat} {cf:Rf.Cfg} {K K':Nat} {ws ws':Rf.Wd} {gh gh':Rf.Gh} {calm:Bool} {ss:Option Addr×Nat}
theorem ActQ.keeps {L T:Nat} {lg:List Rf.Ent} {out:List Nat} {kind:Int} (h:ActQ cf i kind ws ws') (hc:Rf.CfgOK cf) (hO:Rf.Ok cf K ws gh) (hW:Rf.Wq cf L T lg out ws) (ho:kind=1∨kind=7→i+1∈out):Rf.Wq cf L T lg out ws':=by
 rcases h with ⟨hk,d,rfl⟩ | ⟨_,rfl | ⟨m,d,nn,hm,hn,rfl⟩⟩ | ⟨_,h1,h2,h3⟩ | ⟨hk,d,k,_,rfl⟩
 ·rw [capd_cap];exact hW.tick hO (ho (.inl hk))
 ·exact hW
 ·rw [capd_cap];exact hW.come hc hO hm hn
 ·obtain ⟨nd',net'⟩:=ws'
  simp only at h1 h2 h3
  subst h2
  exact hW.drop h1 h3
 ·exact hW.fresh (ho (.inr hk))
theorem steady_led {L T:Nat} {lg:List Rf.Ent} {nd:Nat→Rf.Nd} (h:Rf.Steady cf L T lg nd):Rf.Led cf L T nd:=⟨⟨h.Lr.1,h.Lr.2.1⟩,fun p h1 h2 h3=>by have:=h.pr p h1 h2 h3;exact ⟨this.2.1,this.1,this.2.2⟩⟩
def QW2 (w:World) (z za:Nat) (l:List (Int×Unit)) (B bw:Nat) (bs:List Nat) (cf:Rf.Cfg) (K:Nat) (ss:Option Addr×Nat) (ws:Rf.Wd) (gh:Rf.Gh):Prop:=CWf (fun j=>j≠z∧j≠za) w B bw bs cf K false ss ws gh∧MB w z l
theorem QW2.q {z za:Nat} {l:List (Int×Unit)} (h:QW2 w z za l B bw bs cf K ss ws gh):QW w z l B bw bs cf K ss ws gh:=⟨h.1.mono fun _ hj=>hj.1,h.2⟩
end
set_option maxRecDepth 100000 in
set_option maxHeartbeats 40000000 in
theorem quiet_true (nd a b c d ap:Int) (A:Option Addr) (cp:Nat) (xs:List (AR×List (BR×List Int))) (w:World) (hA:ActS w (·<w.heap.size) A xs) (hl:xs.length≤140737488351232) :
  Calls Tryz.prog 4 #[.int .i64 nd,.int .i64 a,.int .i64 b,.int .i64 c,.int .i64 d,.int .i64 ap,.slice A xs.length cp] w fun e w'=>e=.returned (.bool true)∧Below w.heap.size w w':=by
 have HA:=ld hA
 obtain ⟨n,hn⟩:∃ n,n=xs.length:=⟨_,rfl⟩
 rw [←hn]
 rw [←hn] at hl
 have HN:=ld hn
 clear hA hn
 go_enter Tryz.func4,Tryz.ntmps4
 go_wp2_with (fail)
 refine (config_any nd a b c d w).mono ?_
 rintro e w1 ⟨cf,PA,pc,rfl,hown,hb1,hcf,hmo⟩
 have hr:=hown.rowS len_I
 have HB1:=ld hb1
 have HWD:=ld (world_any PA pc cf _ w1 hr (fun j hj=>hj.2) hcf)
 have HCF:=ld hcf
 clear hown hb1 hcf hmo hr
 go_wp2_with (fail)
 refine HWD.out.mono ?_
 rintro e w2 ⟨bw,bs,ss,rfl,hx,hb2⟩
 have HX2:=ld hx
 have HB2:=ld (HB1.out.trans (hb2.mono HB1.out.size))
 obtain ⟨B,hB⟩:∃ B,B=w1.heap.size:=⟨_,rfl⟩
 rw [←hB] at HX2
 have HBB:=ld hB
 have HB12:Hid (B≤w2.heap.size):=ld (by rw [hB];exact hb2.size)
 have HWB:Hid (w.heap.size≤B):=ld (by rw [hB];exact HB1.out.size)
 have HC1:=ld (calm_any HX2.out HB12.out (by decide) (Nat.zero_le _))
 clear hx hb2 hB HWD HB1 HBB HX2
 go_upto_region 4 with (go_at_call 11;refine HC1.out.mono ?_;rintro e w3 ⟨rfl,ws3,gh3,hT⟩;have HT:=ld hT;clear hT)
 clear HC1
 obtain ⟨L1,T,lg,hL1,hst,hcm⟩:=HT.out.led
 have HST:=ld (And.intro hst hcm)
 have HX3:=ld HT.out.cw
 have HB3:=ld (HB2.out.trans (HT.out.below.mono HWB.out))
 have HB13:Hid (B≤w3.heap.size):=ld (Nat.le_trans HB12.out HT.out.below.size)
 have HNT:=ld HT.out.net
 have HLD:=ld (HX3.out.led_yes (fun hno=>absurd ⟨L1,T,hL1,steady_led hst⟩ hno))
 clear hst hcm HB2 HB12 HT
 go_upto_region 5 with (go_at_call 12;refine HLD.out.mono ?_;rintro e w4 ⟨L,bL,rfl,hLL,n4,rfl⟩)
 obtain ⟨hLn,hbL,hled⟩:=hLL.out
 have hLe:L1=L+1:=Classical.byContradiction fun hne=>by
  have h1:=(HST.out.1.pr (L+1) (by omega) (by omega) (fun e=>hne e.symm)).1
  have h2:=hled.1.1
  omega
 subst hLe
 have HL:=ld (And.intro hLn hbL)
 have HX4:=ld (HX3.out.drewN n4)
 obtain ⟨⟨u13,c13⟩,hfz,hx5,hb5⟩:=HX4.out.calmed HB13.out false
 have HX5:=ld hx5
 have HB5:Hid (Below w.heap.size w ((w3.drewN n4).setCell ⟨bw,13,none⟩ (.bool false))):=ld ((below_drewN' HB3.out n4).trans (hb5.mono HWB.out))
 have HB15:Hid (B≤((w3.drewN n4).setCell ⟨bw,13,none⟩ (.bool false)).heap.size):=ld (Nat.le_trans HB13.out hb5.size)
 clear hled hLL HLD HX3 HX4 HB3 HB13 hx5 hb5 hLn hbL hL1
 go_upto_region 8 with (fail)
 generalize (w3.drewN n4).setCell ⟨bw,13,none⟩ (.bool false)=W5 at HX5 HB5 HB15 ⊢
 obtain ⟨S,g,sg,net,Fs,h,hC,hcal,hss⟩:=HX5.out
 have HC:=ld hC
 have HCS:=ld (And.intro hcal hss)
 have hsl:=hC.at_.seat L bL HL.out.2
 have f3:=vs3 hsl.1.blk
 rw [(hC.seat L HL.out.1).1,show (ws3.nd (L+1)).term=T from HST.out.1.Lr.2.1] at f3
 have hlf:=block_lt hsl.1.blk
 have HAP:=ld (apart_any hC HL.out.2 ap)
 clear hC hcal hss hsl c13 hfz
 go_upto_region 10 with (go_at_call 13;refine HAP.out.mono ?_;rintro e w6 ⟨z,l,out,rfl,hz,hzl,hb6⟩)
 have HZL:=ld hzl.out.2
 have HQ6:Hid (QW w6 z l B bw bs cf 1000 ss ws3 gh3):=ld ⟨⟨S,g,sg,net,Fs,h,HC.out.below hb6,HCS.out,fun j hj e=>HC.out.fresh hz (e▸hj)⟩,hzl.out.1⟩
 have HW6:Hid (Rf.Wq cf (L+1) T lg out ws3):=ld (HST.out.1.wq HC.out.ok HNT.out HST.out.2 HZL.out.2.lead HZL.out.2.rng HZL.out.2.few)
 have HB6:Hid (Below w.heap.size w w6):=ld (HB5.out.trans (hb6.mono HB5.out.size))
 have HB16:Hid (B≤w6.heap.size):=ld (Nat.le_trans HB15.out hb6.size)
 clear hz hzl hb6 HAP f3 hlf HB15 HB5 HC HCS HX5 HNT HST
 go_wp2_with (fail)
 go_loopw [19] (fun sl wr=>∃ (k:Nat) (ws:Rf.Wd) (gh:Rf.Gh),sl=.int .i64 k∧k≤300∧k≤n∧Hid (QW wr z l B bw bs cf (1000+6*k) ss ws gh∧Rf.Wq cf (L+1) T lg out ws∧Below w.heap.size w wr∧B≤wr.heap.size)) (fun sl _=>(300-intOf sl).toNat)
 case atStart=>exact ⟨0,ws3,gh3,rfl,Nat.zero_le _,Nat.zero_le _,ld ⟨HQ6.out,HW6.out,HB6.out,HB16.out⟩⟩
 case round =>
  obtain ⟨k,ws,gh,rfl,hk3,hkn,HK⟩:=hrel
  clear HQ6 HW6 HB6 HB16
  by_cases hlt:k<n∧k<300
  ·have hlt1:(k:Int)<(n:Int):=by omega
   have hlt2:(k:Int)<300:=by omega
   have hAS:=HA.out.keep (w':=wr) fun j hj=>HK.out.2.2.1.block j hj
   have hka:k<xs.length:=by rw [←HN.out];exact hlt.1
   obtain ⟨q,hq⟩:∃ q,xs[k]?=some q:=⟨_,List.getElem?_eq_getElem hka⟩
   obtain ⟨gA,off,hAA,hgA,hcl⟩:=RowS.at_ hAS.row (show (xs.map (·.1))[k]?=some q.1 by rw [List.getElem?_map,hq];rfl)
   have c0:wr.cell? ⟨gA,off+k*6,none⟩=some (.int .i64 q.1.kind):=hcl 0 _ rfl
   have c1:wr.cell? ⟨gA,off+k*6+1,none⟩=some (.int .i64 q.1.nd):=hcl 1 _ rfl
   have c2:wr.cell? ⟨gA,off+k*6+2,none⟩=some (.int .i64 q.1.n):=hcl 2 _ rfl
   have c3:wr.cell? ⟨gA,off+k*6+3,none⟩=some (.int .i64 q.1.draw):=hcl 3 _ rfl
   have c4:wr.cell? ⟨gA,off+k*6+4,none⟩=some (.slice q.1.A q.1.dn q.1.dc):=hcl 4 _ rfl
   have c5:wr.cell? ⟨gA,off+k*6+5,none⟩=some (.bool q.1.twice):=hcl 5 _ rfl
   subst hAA
   have hkn':k<n:=hlt.1
   have HKK:=ld hlt
   clear hAS hka hq hcl hlt
   obtain ⟨⟨kind,nd',n',draw,qA,qn,qc,tw⟩,ds⟩:=q
   simp only at c0 c1 c2 c3 c4 c5
   go_upto_region 14 with (fail)
   have hb1:=below_one wr (.cells #[.int .i64 kind,.int .i64 nd',.int .i64 n',.int .i64 draw,.slice qA qn qc,.bool tw] 31)
   have hz1:=World.alloc_at wr (.cells #[.int .i64 kind,.int .i64 nd',.int .i64 n',.int .i64 draw,.slice qA qn qc,.bool tw] 31)
   obtain ⟨za,hza⟩:∃ za,za=wr.heap.size:=⟨_,rfl⟩
   rw [←hza] at hz1
   rw [←hza]
   generalize wr.alloc (.cells #[.int .i64 kind,.int .i64 nd',.int .i64 n',.int .i64 draw,.slice qA qn qc,.bool tw] 31)=W1 at hb1 hz1 ⊢
   obtain ⟨⟨S,g,sg,net,Fs,h,hC0,hcs,hzf⟩,hmb⟩:=HK.out.1
   have HC1:=ld (hC0.below hb1)
   have HCS:=ld hcs
   have HZF:Hid (∀ j,Fr g bw bs Fs cf.n j→j≠z∧j≠za):=ld fun j hj=>⟨hzf j hj,fun e=>hC0.fresh (Nat.le_of_eq (hza.symm.trans e.symm)) hj⟩
   have HMB1:Hid (MB W1 z l):=ld (hmb.same (hb1.block _ hmb.lt))
   have HZ1:=ld hz1
   have HB1:=ld (HK.out.2.2.1.trans (hb1.mono HK.out.2.2.1.size))
   have HB11:=ld (Nat.le_trans HK.out.2.2.2 hb1.size)
   have HWQ:=ld HK.out.2.1
   clear hb1 hz1 hza hC0 hcs hzf hmb c0 c1 c2 c3 c4 c5 HK
   have hlz:za<W1.heap.size:=block_lt HZ1.out
   have z1:W1.cell? ⟨za,1,none⟩=some (.int .i64 nd'):=cell_block HZ1.out 1 _ rfl
   have HSE:=ld (seat_any HC1.out nd')
   go_upto_region 15 with (go_at_call 14;refine HSE.out.mono ?_;rintro e w8 ⟨b,rfl,hb,n2,rfl⟩)
   have HC2:=ld (HC1.out.drewN n2)
   have HMB2:Hid (MB (W1.drewN n2) z l):=ld (HMB1.out.same rfl)
   have HZ2:Hid ((W1.drewN n2).heap[za]?=some (.cells #[.int .i64 kind,.int .i64 nd',.int .i64 n',.int .i64 draw,.slice qA qn qc,.bool tw] 31 (0,0))):=ld HZ1.out
   have HB2:Hid (Below w.heap.size w (W1.drewN n2)):=ld (below_drewN' HB1.out n2)
   have HB22:Hid (B≤(W1.drewN n2).heap.size):=ld HB11.out
   clear HSE HC1 HMB1 HZ1 HB1 HB11 hlz z1
   generalize W1.drewN n2=W2 at HC2 HMB2 HZ2 HB2 HB22 ⊢
   have hni:=(nth_lt HC2.out.cok nd').1
   obtain ⟨i,hid⟩:∃ i,i=nth cf nd':=⟨_,rfl⟩
   have HID:=ld hid
   rw [←hid] at hb hni
   have hn5:=HC2.out.cok.n
   have hsi:=HC2.out.at_.seat i b hb.out
   have d0:=vs0 hsi.1.blk
   rw [hsi.2] at d0
   have hlb:=block_lt hsi.1.blk
   obtain ⟨qi,hqi⟩:∃ qi:Nat,qi=i+1:=⟨_,rfl⟩
   rw [←hqi] at d0
   have hlk:=look_set HMB2.out HZL.out.1 qi (okI_small (by omega))
   have HQI:=ld hqi
   have HFIN:Hid (∀ (w9:World) (ws9:Rf.Wd) (gh9:Rf.Gh),CWf (fun j=>Fr g bw bs Fs cf.n j∨W2.heap.size≤j) w9 B bw bs cf (1000+6*k+1) false (g.sA,g.sc) ws9 gh9→ActQ cf (nth cf nd') kind ws ws9→Chg (Fr g bw bs Fs cf.n) W2 w9→(kind=1∨kind=7→qi∈out)→QW w9 z l B bw bs cf (1000+6*k+1) ss ws9 gh9∧Rf.Wq cf (L+1) T lg out ws9∧Below w.heap.size w w9∧B≤w9.heap.size):=ld fun w9 ws9 gh9 hx9 hq9 hc9 ho9=>by
    refine ⟨⟨by rw [←HCS.out.2];exact hx9.mono fun j hj e=>hj.elim (fun hj=>(HZF.out j hj).1 e) fun hj=>by have:=HMB2.out.lt;omega,HMB2.out.same (hc9.keep HMB2.out.lt fun hf=>(HZF.out z hf).1 rfl)⟩,hq9.keeps HC2.out.cok HC2.out.ok HWQ.out (fun hk=>by rw [←HID.out,←HQI.out];exact ho9 hk),HB2.out.trans ((HC2.out.chgB hc9 HB22.out).mono HWB.out),Nat.le_trans HB22.out hc9.size⟩
   have hlz:za<W2.heap.size:=block_lt HZ2.out
   have z0:W2.cell? ⟨za,0,none⟩=some (.int .i64 kind):=cell_block HZ2.out 0 _ rfl
   have z1:W2.cell? ⟨za,1,none⟩=some (.int .i64 nd'):=cell_block HZ2.out 1 _ rfl
   have z2:W2.cell? ⟨za,2,none⟩=some (.int .i64 n'):=cell_block HZ2.out 2 _ rfl
   have z3:W2.cell? ⟨za,3,none⟩=some (.int .i64 draw):=cell_block HZ2.out 3 _ rfl
   have z4:W2.cell? ⟨za,4,none⟩=some (.slice qA qn qc):=cell_block HZ2.out 4 _ rfl
   have z5:W2.cell? ⟨za,5,none⟩=some (.bool tw):=cell_block HZ2.out 5 _ rfl
   have hK:1000+6*k+1≤60000:=by omega
   have HLEN:=ld HWQ.out.p.len
   clear hb hid hsi hqi
   go_cut [88] from 59 to 199 (fun v wx=>v=.bool (decide (kind=1∧qi ∉ out))∧wx=W2)
   case first =>
    by_cases k1:kind=1
    ·subst k1
     by_cases ho:qi∈out
     ·rw [decide_eq_true ho] at hlk
      have HO:=ld ho
      clear ho
      go_wp2_with (fail)
      go_meet
      exact ⟨congrArg Value.bool (by simp [HO.out]),rfl⟩
     ·rw [decide_eq_false ho] at hlk
      have HO:=ld ho
      clear ho
      go_wp2_with (fail)
      go_meet
      exact ⟨congrArg Value.bool (by simp [HO.out]),rfl⟩
    ·have q1:(kind==1)=false:=by simpa using k1
     have HO:=ld k1
     clear k1
     go_wp2_with (fail)
     go_meet
     exact ⟨congrArg Value.bool (decide_eq_false (fun h=>HO.out h.1)).symm,rfl⟩
   case rest =>
    obtain ⟨rfl,hwc⟩:=hcut
    subst hwc
    obtain ⟨cnd,hcnd⟩:∃ cnd:Bool,cnd=decide (kind=1∧qi ∉ out):=⟨_,rfl⟩
    rw [←hcnd]
    have HCND:=ld hcnd
    clear hcnd
    go_upto_if 88 with (fail)
    go_cut [] from 59 to 199 (fun wx=>Hid (∃ ws' gh',QW wx z l B bw bs cf (1000+6*(k+1)) ss ws' gh'∧Rf.Wq cf (L+1) T lg out ws'∧Below w.heap.size w wx∧B≤wx.heap.size))
    case first =>
     by_cases ho:qi∈out
     ·rw [decide_eq_true ho] at hlk
      have HO:=ld ho
      clear ho
      obtain rfl:cnd=false:=HCND.out.trans (decide_eq_false fun h=>h.2 HO.out)
      by_cases k1:kind=1
      ·subst k1
       go_wp2_with (go_at_call 10;refine (act_small HC2.out HCS.out.1 HB22.out hK HLEN.out 1 nd' n' draw qA qn qc tw (.inl rfl)).mono ?_;rintro e w9 ⟨rfl,ws9,gh9,hx9,hq9,hc9⟩;have HF:=ld (HFIN.out w9 ws9 gh9 hx9 hq9 hc9 (fun _=>HO.out));clear hx9 hq9 hc9)
       go_meet
       exact ld ⟨ws9,gh9,⟨HF.out.1.1.more (by omega) (by omega),HF.out.1.2⟩,HF.out.2⟩
      have q1:(kind==1)=false:=by simpa using k1
      by_cases k7:kind=7
      ·subst k7
       clear k1
       go_wp2_with (go_at_call 10;refine (act_small HC2.out HCS.out.1 HB22.out hK HLEN.out 7 nd' n' draw qA qn qc tw (.inr (.inr (.inr rfl)))).mono ?_;rintro e w9 ⟨rfl,ws9,gh9,hx9,hq9,hc9⟩;have HF:=ld (HFIN.out w9 ws9 gh9 hx9 hq9 hc9 (fun _=>HO.out));clear hx9 hq9 hc9)
       go_meet
       exact ld ⟨ws9,gh9,⟨HF.out.1.1.more (by omega) (by omega),HF.out.1.2⟩,HF.out.2⟩
      have q7:(kind==7)=false:=by simpa using k7
      by_cases k2:kind=2
      ·subst k2
       have HNK:Hid (∀ P:Prop,(2:Int)=1∨(2:Int)=7→P):=ld fun _ h=>absurd h (by decide)
       go_wp2_with (first
        | (go_at_call 10;refine (act_small HC2.out HCS.out.1 HB22.out hK HLEN.out 2 nd' n' draw qA qn qc tw (.inr (.inl rfl))).mono ?_;rintro e w9 ⟨rfl,ws9,gh9,hx9,hq9,hc9⟩;have HF:=ld (HFIN.out w9 ws9 gh9 hx9 hq9 hc9 (HNK.out _));clear hx9 hq9 hc9)
        | (go_at_call 16;refine (among_any HF.out.1 HZL.out.1 HF.out.2.2.2 hK HF.out.2.1.p (by rw [Rf.wqs_zero HF.out.2.1.no];exact Nat.zero_le _)).mono ?_;rintro e w10 ⟨rfl,⟨ws10,gh10,h10⟩,hb10⟩))
       go_meet
       exact ld ⟨ws10,gh10,⟨h10.out.1.1.more (by omega) (by omega),h10.out.1.2⟩,h10.out.2,HF.out.2.2.1.trans (hb10.mono HWB.out),Nat.le_trans HF.out.2.2.2 hb10.size⟩
      have q2:(kind==2)=false:=by simpa using k2
      by_cases k3:kind=3
      ·subst k3
       have HNK:Hid (∀ P:Prop,(3:Int)=1∨(3:Int)=7→P):=ld fun _ h=>absurd h (by decide)
       go_wp2_with (first
        | (go_at_call 10;refine (act_small HC2.out HCS.out.1 HB22.out hK HLEN.out 3 nd' n' draw qA qn qc tw (.inr (.inr (.inl rfl)))).mono ?_;rintro e w9 ⟨rfl,ws9,gh9,hx9,hq9,hc9⟩;have HF:=ld (HFIN.out w9 ws9 gh9 hx9 hq9 hc9 (HNK.out _));clear hx9 hq9 hc9)
        | (go_at_call 16;refine (among_any HF.out.1 HZL.out.1 HF.out.2.2.2 hK HF.out.2.1.p (by rw [Rf.wqs_zero HF.out.2.1.no];exact Nat.zero_le _)).mono ?_;rintro e w10 ⟨rfl,⟨ws10,gh10,h10⟩,hb10⟩))
       go_meet
       exact ld ⟨ws10,gh10,⟨h10.out.1.1.more (by omega) (by omega),h10.out.1.2⟩,h10.out.2,HF.out.2.2.1.trans (hb10.mono HWB.out),Nat.le_trans HF.out.2.2.2 hb10.size⟩
      have q3:(kind==3)=false:=by simpa using k3
      go_wp2_with (fail)
      go_meet
      exact ld ⟨ws,gh,⟨CWf.more ⟨S,g,sg,net,Fs,h,HC2.out,HCS.out,fun j hj=>(HZF.out j hj).1⟩ (by omega) (by omega),HMB2.out⟩,HWQ.out,HB2.out,HB22.out⟩
     ·rw [decide_eq_false ho] at hlk
      have HO:=ld ho
      clear ho
      by_cases k1:kind=1
      ·subst k1
       obtain rfl:cnd=true:=HCND.out.trans (decide_eq_true ⟨rfl,HO.out⟩)
       have HT0:Hid (Rf.Ticked cf (L+1) out draw ws 0 ws):=ld (Rf.Ticked.zero (by omega))
       clear z1 z2 z4 z5
       go_wp2_with (fail)
       clear z0 z3 hlk d0 hlb hlz
       go_loopw [22] (fun sl w2=>∃ (kk:Nat) (wk:Rf.Wd) (ghk:Rf.Gh),sl=.int .i64 kk∧kk≤cf.n∧Hid (QW2 w2 z za l B bw bs cf (1000+6*k+kk) ss wk ghk∧Rf.Ticked cf (L+1) out draw ws kk wk∧Below w.heap.size w w2∧B≤w2.heap.size∧w2.heap[za]?=some (.cells #[.int .i64 1,.int .i64 nd',.int .i64 n',.int .i64 draw,.slice qA qn qc,.bool tw] 31 (0,0)))) (fun sl _=>cf.n-(intOf sl).toNat)
       case atStart=>exact ⟨0,ws,gh,rfl,Nat.zero_le _,ld ⟨⟨⟨S,g,sg,net,Fs,h,HC2.out,HCS.out,HZF.out⟩,HMB2.out⟩,HT0.out,HB2.out,HB22.out,HZ2.out⟩⟩
       case round =>
        obtain ⟨kk,wk,ghk,rfl,hkk,HT⟩:=hrel
        obtain ⟨⟨S3,g3,sg3,net3,Fs3,h3,hC3,hcs3,hzf3⟩,hmb3⟩:=HT.out.1
        have HC3:=ld hC3
        have HCS3:=ld hcs3
        have HZF3:=ld hzf3
        have HMB3:=ld hmb3
        have HWO:=ld HC2.out.ok
        have HCO:=ld HC2.out.cok
        have hlw:bw<wr.heap.size:=block_lt hC3.at_.wb
        obtain ⟨sb,so,hsA,hsS,_⟩:=hC3.seats
        have c6:=vw6 hC3.at_.wb
        rw [hsA,hC3.cfg.1] at c6
        have HSA:=ld hsA
        clear hC3 hcs3 hzf3 hmb3 hsA hsS
        by_cases hltk:kk<cf.n
        ·have hltk':(kk:Int)<(cf.n:Int):=by omega
         have hk0:(0:Int)≤(kk:Int):=by omega
         obtain ⟨bk,hbk,hsat,hidk⟩:=HC3.out.sat hltk
         have cp:wr.cell? ⟨sb,so+kk,none⟩=some (.pointer (some ⟨bk,0,none⟩)):=HC3.out.ptr HSA.out hbk
         have e0:=vs0 hsat.blk
         rw [hidk] at e0
         have hlbk:=block_lt hsat.blk
         obtain ⟨qk,hqk⟩:∃ qk:Nat,qk=kk+1:=⟨_,rfl⟩
         rw [←hqk] at e0
         have hlk3:=look_set HMB3.out HZL.out.1 qk (okI_small (by omega))
         have HQK:=ld hqk
         have HBK:=ld hbk
         clear hqk hbk hsat hidk
         by_cases hok:qk∈out
         ·rw [decide_eq_true hok] at hlk3
          have HOK:=ld hok
          clear hok
          go_wp2_with (fail)
          go_roundw
          case rel=>exact ⟨kk+1,wk,ghk,by go_num,by omega,ld ⟨⟨HT.out.1.1.more (by omega) (by omega),HT.out.1.2⟩,HT.out.2.1.skip HWQ.out (by rw [←HQK.out];exact HOK.out),HT.out.2.2⟩⟩
          case measure=>simp [intOf];omega
         ·rw [decide_eq_false hok] at hlk3
          have HOK:=ld hok
          have hl9:wk.net.length≤900000000:=by have:=HT.out.2.1.len HWQ.out;omega
          have hKk:1000+6*k+kk+1≤60000:=by omega
          clear hok
          go_upto_region 20 with (fail)
          clear hlk3 e0 hlbk
          have hS9:wr.drew.cell? ⟨bw,6,none⟩=some (.slice (some ⟨sb,so,none⟩) cf.n g3.sc)∧wr.drew.cell? ⟨sb,so+kk,none⟩=some (.pointer (some ⟨bk,0,none⟩))∧wr.drew.heap[za]?=some (.cells #[.int .i64 1,.int .i64 nd',.int .i64 n',.int .i64 draw,.slice qA qn qc,.bool tw] 31 (0,0)):=⟨c6,cp,HT.out.2.2.2.2⟩
          have HSS:Hid ((g3.sA,g3.sc)=(some ⟨sb,so,none⟩,g3.sc)):=ld (by rw [HSA.out])
          clear c6 cp
          refine wp_region_held_drew (S:=fun W:World=>W.cell? ⟨bw,6,none⟩=some (.slice (some ⟨sb,so,none⟩) cf.n g3.sc)∧W.cell? ⟨sb,so+kk,none⟩=some (.pointer (some ⟨bk,0,none⟩))∧W.heap[za]?=some (.cells #[.int .i64 1,.int .i64 nd',.int .i64 n',.int .i64 draw,.slice qA qn qc,.bool tw] 31 (0,0))) (by kernel_rfl) hS9 (fun hHeld=>?_)
          refine tks 0 (.pointer (some ⟨bw,0,none⟩)) ?_
          refine tks 1 (.pointer (some ⟨bw,0,none⟩)) ?_
          refine tks 2 (.pointer (some ⟨bw,0,none⟩)) ?_
          refine tks 3 (.pointer (some ⟨bw,6,none⟩)) ?_
          refine tk 4 (.slice (some ⟨sb,so,none⟩) cf.n g3.sc) ?_ ?_
          ·intro w hSw;have t1:=hSw.1;go_simp
          refine tks 5 (.int .i64 (kk:Int)) ?_
          refine tks 6 (.pointer (some ⟨sb,so+kk,none⟩)) ?_
          refine tk 7 (.pointer (some ⟨bk,0,none⟩)) ?_ ?_
          ·intro w hSw;have t2:=hSw.2.1;go_simp
          refine tks 8 (.pointer (some ⟨za,3,none⟩)) ?_
          refine tk 9 (.int .i64 draw) ?_ ?_
          ·intro w hSw;have t3:w.cell? ⟨za,3,none⟩=some (.int .i64 draw):=cell_block hSw.2.2 3 _ rfl;go_simp
          refine tks 10 (.agg #[.int .i64 1,.int .i64 draw,.int .i64 0,.int .i64 0,.int .i64 0,.int .i64 0,.int .i64 0,.int .i64 0,.int .i64 0,.slice none 0 0,.bool false,.int .i64 0,.slice none 0 0,.int .i64 0,.int .i64 0,.int .i64 0]) ?_
          refine rdy 11 fun K hK=>?_
          go_simp
          refine (cw_tick (HC3.out.drewN 1) HCS3.out.1 hltk HBK.out HT.out.2.2.2.1 hKk hl9 draw _ _ _ _ _ _ _ _ _ _ _ _ _ _).mono ?_
          rintro e w8 ⟨rfl,gh8,hx8,hext8,hc8⟩
          have hc8':Chg (Fr g3 bw bs Fs3 cf.n) wr w8:=⟨hc8.os,hc8.tape,hc8.output,hc8.size,hc8.block⟩
          have hsc8:=hx8.x.seatCell HSS.out HBK.out
          have hz8:=(hc8'.keep (block_lt HT.out.2.2.2.2) fun hf=>(HZF3.out za hf).2 rfl).trans HT.out.2.2.2.2
          have HX8:=ld hx8
          have HC8:=ld hc8'
          have HZ8:=ld hz8
          clear hx8 hext8 hc8 hc8'
          go_wp2_with (fail)
          refine hks hK ?_ fun hHeld=>?_
          ·exact ⟨hsc8.1,hsc8.2,hz8⟩
          clear hK K
          refine tks 12 (.tuple #[.int .i64 0,.bool true]) ?_
          refine tks 13 (.int .i64 0) ?_
          refine tks 14 (.bool true) ?_
          refine tks 15 (.int .i64 0) ?_
          refine tks 16 (.bool true) ?_
          refine don ?_
          go_wp2_with (fail)
          go_roundw
          case rel =>
           refine ⟨kk+1,_,gh8,by go_num,by omega,ld ⟨⟨by rw [←HCS3.out.2];exact HX8.out.mono fun j hj=>hj.elim (HZF3.out j) fun hj=>by have h1:=HMB3.out.lt;have h2:=block_lt HT.out.2.2.2.2;have hj:wr.heap.size≤j:=hj;exact ⟨by omega,by omega⟩,HMB3.out.same (HC8.out.keep HMB3.out.lt fun hf=>(HZF3.out z hf).1 rfl)⟩,HT.out.2.1.in_ HWQ.out HCO.out HWO.out (by rw [←HQK.out];exact HOK.out) (by omega),HT.out.2.2.1.trans ((HC3.out.chgB HC8.out HT.out.2.2.2.1).mono HWB.out),Nat.le_trans HT.out.2.2.2.1 HC8.out.size,HZ8.out⟩⟩
          case measure=>simp [intOf];omega
        ·have hkc:kk=cf.n:=by omega
         have hltk':¬ ((kk:Int)<(cf.n:Int)):=by omega
         have HD:Hid (Rf.Wp cf (L+1) T lg out wk∧Rf.wqs out wk.net≤10):=ld (by have h1:=HT.out.2.1;rw [hkc] at h1;exact h1.done HWQ.out HCO.out HWO.out)
         have hKk:1000+6*k+kk≤60000:=by omega
         have hKk5:kk≤5:=by omega
         clear hkc hltk
         go_wp2_with (go_at_call 16;refine (among_any HT.out.1.q HZL.out.1 HT.out.2.2.2.1 hKk HD.out.1 HD.out.2).mono ?_;rintro e w10 ⟨rfl,⟨ws10,gh10,h10⟩,hb10⟩)
         go_meet
         exact ld ⟨ws10,gh10,⟨h10.out.1.1.more (by omega) (by omega),h10.out.1.2⟩,h10.out.2,HT.out.2.2.1.trans (hb10.mono HWB.out),Nat.le_trans HT.out.2.2.2.1 hb10.size⟩
      obtain rfl:cnd=false:=HCND.out.trans (decide_eq_false fun h=>k1 h.1)
      have q1:(kind==1)=false:=by simpa using k1
      by_cases k2:kind=2
      ·subst k2
       have HNK:Hid (∀ P:Prop,(2:Int)=1∨(2:Int)=7→P):=ld fun _ h=>absurd h (by decide)
       go_wp2_with (first
        | (go_at_call 10;refine (act_small HC2.out HCS.out.1 HB22.out hK HLEN.out 2 nd' n' draw qA qn qc tw (.inr (.inl rfl))).mono ?_;rintro e w9 ⟨rfl,ws9,gh9,hx9,hq9,hc9⟩;have HF:=ld (HFIN.out w9 ws9 gh9 hx9 hq9 hc9 (HNK.out _));clear hx9 hq9 hc9)
        | (go_at_call 16;refine (among_any HF.out.1 HZL.out.1 HF.out.2.2.2 hK HF.out.2.1.p (by rw [Rf.wqs_zero HF.out.2.1.no];exact Nat.zero_le _)).mono ?_;rintro e w10 ⟨rfl,⟨ws10,gh10,h10⟩,hb10⟩))
       go_meet
       exact ld ⟨ws10,gh10,⟨h10.out.1.1.more (by omega) (by omega),h10.out.1.2⟩,h10.out.2,HF.out.2.2.1.trans (hb10.mono HWB.out),Nat.le_trans HF.out.2.2.2 hb10.size⟩
      have q2:(kind==2)=false:=by simpa using k2
      by_cases k3:kind=3
      ·subst k3
       have HNK:Hid (∀ P:Prop,(3:Int)=1∨(3:Int)=7→P):=ld fun _ h=>absurd h (by decide)
       go_wp2_with (first
        | (go_at_call 10;refine (act_small HC2.out HCS.out.1 HB22.out hK HLEN.out 3 nd' n' draw qA qn qc tw (.inr (.inr (.inl rfl)))).mono ?_;rintro e w9 ⟨rfl,ws9,gh9,hx9,hq9,hc9⟩;have HF:=ld (HFIN.out w9 ws9 gh9 hx9 hq9 hc9 (HNK.out _));clear hx9 hq9 hc9)
        | (go_at_call 16;refine (among_any HF.out.1 HZL.out.1 HF.out.2.2.2 hK HF.out.2.1.p (by rw [Rf.wqs_zero HF.out.2.1.no];exact Nat.zero_le _)).mono ?_;rintro e w10 ⟨rfl,⟨ws10,gh10,h10⟩,hb10⟩))
       go_meet
       exact ld ⟨ws10,gh10,⟨h10.out.1.1.more (by omega) (by omega),h10.out.1.2⟩,h10.out.2,HF.out.2.2.1.trans (hb10.mono HWB.out),Nat.le_trans HF.out.2.2.2 hb10.size⟩
      have q3:(kind==3)=false:=by simpa using k3
      go_wp2_with (fail)
      go_meet
      exact ld ⟨ws,gh,⟨CWf.more ⟨S,g,sg,net,Fs,h,HC2.out,HCS.out,fun j hj=>(HZF.out j hj).1⟩ (by omega) (by omega),HMB2.out⟩,HWQ.out,HB2.out,HB22.out⟩
    case rest =>
     obtain ⟨ws',gh',hx9,hw9,hb9,hb99⟩:=hcut.out
     have HX9:=ld hx9
     have HW9:=ld hw9
     have HB9:=ld hb9
     have HB99:=ld hb99
     clear hcut hx9 hw9 hb9 hb99 HC2 HMB2 HZ2 HB2 HB22 HFIN HZF HCS HWQ hlk d0 hlb z0 z1 z2 z3 z4 z5 hlz
     obtain ⟨S9,g9,sg9,net9,Fs9,h9,hC9,hcs9,hzf9⟩:=HX9.out.1
     have HC9:=ld hC9
     have hsl:=hC9.at_.seat L bL HL.out.2
     have f10:=vs10 hsl.1.blk
     rw [(hC9.seat L HL.out.1).2.2.2.1,show (ws'.nd (L+1)).role=4 from HW9.out.p.q.Lr.1] at f10
     have hlf:=block_lt hsl.1.blk
     have hlw:bw<wc.heap.size:=block_lt hC9.at_.wb
     obtain ⟨sb,so,hsA,hsS,_⟩:=hC9.seats
     have c6:=vw6 hC9.at_.wb
     rw [hsA,hC9.cfg.1] at c6
     have HSA:=ld hsA
     clear hC9 hcs9 hzf9 hsl hsA hsS
     go_wp2_with (fail)
     clear f10 hlf
     go_loopw [27] (fun sl w2=>∃ (kk:Nat),sl=.int .i64 kk∧kk≤cf.n∧w2=wc) (fun sl _=>cf.n-(intOf sl).toNat)
     case atStart=>exact ⟨0,rfl,Nat.zero_le _,rfl⟩
     case round =>
      obtain ⟨kk,rfl,hkk,rfl⟩:=hrel
      by_cases hlt3:kk<cf.n
      ·have hlt3':(kk:Int)<(cf.n:Int):=by omega
       have hk0:(0:Int)≤(kk:Int):=by omega
       obtain ⟨bk,hbk,hsat,hid⟩:=HC9.out.sat hlt3
       have cp:wr.cell? ⟨sb,so+kk,none⟩=some (.pointer (some ⟨bk,0,none⟩)):=HC9.out.ptr HSA.out hbk
       have f3:=vs3 hsat.blk
       rw [(HC9.out.seat kk hlt3).1,HW9.out.p.q.term (kk+1) (by omega) (by omega)] at f3
       have hlk3:=block_lt hsat.blk
       clear hbk hsat hid
       go_wp2_with (fail)
       go_roundw
       case rel=>exact ⟨kk+1,by go_num,by omega,(by first | rfl | trivial)⟩
       case measure=>simp [intOf];omega
      ·have hlt3':¬ ((kk:Int)<(cf.n:Int)):=by omega
       clear hlt3
       go_wp2_with (fail)
       go_roundw
       case rel=>exact ⟨k+1,ws',gh',by go_num,by have:=HKK.out;omega,by have:=HKK.out;omega,ld ⟨HX9.out,HW9.out,HB9.out,HB99.out⟩⟩
       case measure=>first | (simp [intOf];done) | (simp [intOf];omega)
  ·have hcase:n≤k∨(k<n∧k=300):=by omega
   clear hlt
   rcases hcase with h1 | ⟨h1,rfl⟩
   ·have hlt1:¬ ((k:Int)<(n:Int)):=by omega
    go_wp2_with (fail)
    go_ret
    exact ⟨rfl,HK.out.2.2.1⟩
   ·have hlt1:((300:Nat):Int)<(n:Int):=by omega
    have hlt3:(300:Int)<(n:Int):=by omega
    go_wp2_with (fail)
    go_ret
    exact ⟨rfl,HK.out.2.2.1⟩
end Go.Proofs.YtocogcgnahbpkaaGreat
