import Derived.Test.YtlomecfhobehnaaGreatDoorMgFixDrops18
set_option linter.all false
set_option maxRecDepth 100000
set_option maxHeartbeats 8000000
namespace Go.Proofs.YtlomecfhobehnaaGreatDoor
open Lib (hid)
section
open Go.RowKit
open Rd
namespace Tm
theorem pk:∀(l:Its) (d:Nat),l.len≤(prI d l).length∧(l.len≠0→2 * d≤(prI d l).length)
 | .nil,d=>⟨Nat.zero_le _,fun h=>absurd rfl h⟩
 | .cons h l,d=>by
  have:=(pk l d).1;unfold prI prH pad;simp only[Its.len,Z7,Z6,List.length_replicate,Y3];constructor
  ·omega
  ·intro _;omega
 | .when a c b l,d=>by
  have:=(pk l d).1;unfold prI pad;simp only[Its.len,Z7,Z6,List.length_replicate,Y3];constructor
  ·omega
  ·intro _;omega
end Tm
def uK(l:Tm.Its):Prop:=∀(V w:World) (rb d cap:Nat) (ga:Option Addr) (bs:List Value) (txt:Tm.Wd),ak V (rb+1) 70 13 ga (Tm.Its.len l) cap bs→Tm.bu V rb l bs→da V rb→rb≤V.heap.size→ib V w txt→d≤1000000→(txt++Tm.prI d l).length≤1000000→
 Calls Tryz.prog 82 #[.pointer (some ⟨V.heap.size,0,none⟩),.slice ga (Tm.Its.len l) cap,.int .i64 (d:Nat)] w fun e w'=>e= .returned (.tuple #[])∧ib V w' (txt++Tm.prI d l)
theorem iU{V w:World}{rb:Nat}(h:da V rb)(hb:Below V.heap.size V w)(hrb:rb≤V.heap.size):da w rb:=by
 have key:∀(p:Addr),p.block < rb→w.cell? p=V.cell? p:=fun p hlt=>hb.cell (p:=p) (Nat.lt_of_lt_of_le hlt hrb)
 refine⟨h.1,fun k hk=> ?_⟩;obtain⟨gk,ck,h1,h2,h3⟩:=h.2 k hk;exact⟨gk,ck,(key ⟨_,k,none⟩ h.1).trans h1,h2,fun j hj=>(key (gk.add j) (by rw[Addr.cH];exact h2)).trans (h3 j hj)⟩
theorem aN(a:Array UInt8):(ByteArray.mk a).size=a.size:=rfl
theorem aT(a:Array UInt8):(ByteArray.mk a).data.toList=a.toList:=rfl
theorem aH(l:List UInt8):(aa l).data.toList=l:=rfl
theorem aI(x y:ByteArray):(x++y).data.toList=x.data.toList++y.data.toList:=by rw[ByteArray.data_append,Array.toList_append]
namespace Tm
theorem xe{w:Wd}(h:(kindOf w).isSome=true):w.length≤5:=by
 have key:∀p∈bp,p.1.length≤5:=by decide
 unfold kindOf at h;rw[Option.isSome_map]at h;obtain⟨p,hp⟩:=Option.isSome_iff_exists.1 h;have h1:=List.mem_of_find?_eq_some hp;have h2:=List.find?_some hp;rw[beq_iff_eq]at h2;rw[← h2];exact key p h1
theorem cg{w:Wd}(h:aP w=true):w.length≤12:=by
 unfold aP at h;simp only[Bool.and_eq_true,decide_eq_true_eq]at h;exact h.2
theorem zE{h:Hd}(hf:ju h):eN h.name∧
  ((∃w,h.k= .scalar w∧(kindOf w).isSome=true∧((∃x,h.cnt=some x∧h.ay= .none∧il x)∨(h.cnt=none∧AM h.ay)))∨(h.k= .bytes∧∃x,h.cnt=some x∧h.ay= .none∧il x)∨
   (∃t,h.k= .struct t∧eN t∧((∃x,h.cnt=some x∧h.ay= .none∧il x)∨(h.cnt=none∧h.ay= .none)))):=by
 obtain⟨h1,h2,h3,h4,h5,h6⟩:=hf;obtain⟨a,k,nm,c,r⟩:=h;refine⟨h2,?_⟩;simp only[]at *
 cases k with
 |scalar w=>
  refine .inl ⟨w,rfl,h1,?_⟩;cases c with
  |none=>exact .inr ⟨rfl,h4⟩
  |some x=>exact .inl ⟨x,rfl,(h3 x rfl).2,(h3 x rfl).1⟩
 |bytes=>
  cases c with
  |none=>exact absurd rfl (h5 rfl)
  |some x=>exact .inr (.inl ⟨rfl,x,rfl,(h3 x rfl).2,(h3 x rfl).1⟩)
 |struct t=>
  refine .inr (.inr ⟨t,rfl,h1,?_⟩);cases c with
  |some x=>exact .inl ⟨x,rfl,(h3 x rfl).2,(h3 x rfl).1⟩
  |none=>
   by_cases hr:r= .none
   ·exact .inr ⟨rfl,hr⟩
   ·obtain⟨w,hw⟩:=h6 hr;cases hw
end Tm
theorem iV{V w:World}{rb b:Nat}{x:Ex.X}{txt:Tm.Wd}(hx:IsX V rb b x)(hl:da V rb)(hrb:rb≤V.heap.size)(h:ib V w txt)(hf:Tm.il x)(hlen:(Tm.prX x).length≤1000000):
  Calls Tryz.prog 108 #[.pointer (some ⟨b,0,none⟩)] w fun e w'=>e= .returned (.string (aa (Tm.prX x)))∧ib V w' txt:=by
 refine(yV x hf.1 w rb b (iU hl h.bel hrb) (Nat.le_trans hrb h.bel.size) (IsX.grown (ar h.bel _) x b hx) hlen).mono ?_;rintro e w' ⟨h1,h2⟩;exact⟨h1,h.up h2⟩
theorem zF(l:Tm.Its)(hF:Tm.bG l)(hB:∀b,Tm.bG b→Tm.Its.sz b < Tm.Its.sz l→uK b):uK l:=by
 intro V w rb d cap ga bs txt hown henc hlv hrb hw hd hlen;have hl1:=(Tm.pk l d).1;have hl2:=(Tm.pk l d).2;have hlen0:=hlen;rw[Z7]at hlen0;have hlcap:Tm.Its.len l≤cap:=aW hown;obtain⟨full,hfull⟩:∃full,full=txt++Tm.prI d l:=⟨_,rfl⟩;rw[← hfull]at hlen⊢;have HFULL:=hid hfull;have HLEN:=hid hlen;have hnn:Tm.Its.len l≤1000000:=by omega
 have hdd:Tm.Its.len l≠0→d+1≤1000000∧d≤1000000:=fun h=>by have:=hl2 h;omega
 have HDD:=hid hdd;have hpad:=Ic d w hd;obtain⟨P,hP⟩:∃P,P=Tm.pad d:=⟨_,rfl⟩;rw[← hP]at hpad;have HPAD:=hid hpad;have HP:=hid hP;have HO:=hid hown;have HE:=hid henc;have HLV:=hid hlv;have HRB:=hid hrb;have HW:=hid hw;have HF:=hid hF;have HBB:=hid hB;clear hown henc hlv hrb hw hF hB hlen hlen0 hfull hdd hpad hP hl1 hl2 hd;obtain⟨n,hn⟩:∃n,n=Tm.Its.len l:=⟨_,rfl⟩;rw[← hn]at hnn hlcap⊢;have HN:=hid hn;clear hn;go_enter Tryz.func82,Tryz.ntmps82;go_wp2_with fail;refine HPAD.out.mono ?_;rintro e w1 ⟨rfl,hb1⟩;have S1:=hid (HW.out.up hb1);clear hb1 HPAD HW;go_wp2_with fail;go_loopw [13] (fun v13 wr=>∃(i:Nat) (T:Tm.Wd),v13= .int .i64 (i:Nat)∧i≤n∧Hid (T++Tm.prI d (Tm.Its.drop i l)=full)∧Hid (ib V wr T)) (fun v13 _=>n - (intOf v13).toNat)
 case atStart=>exact⟨0,txt,rfl,Nat.zero_le _,hid HFULL.out.symm,S1⟩
 case round=>
  obtain⟨i,T,rfl,hi,HT,HS⟩:=hrel;clear S1
  by_cases hin:i < n
  ·have q1:decide ((i:Int) < (n:Int))=true:=Z9 (by omega);have q2:decide (i < n)=true:=Z9 hin;have hii:(i:Int) < (n:Int):=by omega
   obtain⟨x,rfl⟩:∃x,ga=some x:=by
    cases ga with
    |none=>have:=HO.out.aS.1;rw[← HN.out]at this;omega
    |some x=>exact⟨x,rfl⟩
   obtain⟨gb,rfl⟩:∃gb,x=⟨gb,0,none⟩:=⟨x.block,HO.out.row.1⟩;have HFD:=hid (Tm.dh i l HF.out);have HSD:=hid (Tm.gT i l);rcases Tm.cF l i (by rw[← HN.out];exact hin)with⟨h,r,hdr⟩|⟨a,c,b,r,hdr⟩
   ·rw[hdr]at HT HFD;obtain⟨hnm,hcs⟩:=Tm.zE HFD.out.1;obtain⟨cv,hcv,hrow,hnx⟩:=Tm.bu.hd HO.out HE.out hdr;have HROW:=hid hrow;have HNX:=hid hnx;have hnl:=Tm.cg hnm.2;clear hrow hnx hdr hnm HFD HSD HBB HDD;obtain⟨ha,hk,nm,hc,hr⟩:=h;simp only[]at hcs hcv hnl;rcases hcs with⟨wd,rfl,hw,hcs⟩|⟨rfl,x,rfl,rfl,hfx⟩|⟨wd,rfl,hw,hcs⟩
    ·have KW:=hid hw;have hwl:=Tm.xe hw;clear hw;rcases hcs with⟨x,rfl,rfl,hfx⟩|⟨rfl,hfr⟩
     ·obtain⟨bx,rfl,hx⟩:=hcv;have KX:=hid hx;have KFX:=hid hfx;clear hx hfx;have hTlen:(T++Tm.prI d (.cons ⟨ha,(.scalar wd),nm,some x,.none⟩ r)).length≤1000000:=by rw[HT.out];exact HLEN.out
      rw[Z7,show(Tm.prI d (.cons ⟨ha,(.scalar wd),nm,some x,.none⟩ r)).length=_ from by unfold Tm.prI Tm.prH;simp only[Z7,Z6,Y3,Tm.bt];rfl]at hTlen;have hPl:P.length=(Tm.pad d).length:=by rw[HP.out]
      have HPL:=hid hPl;have hp4:P.length≤1000000:=by omega
      have hp5:T.length≤1000000:=by omega
      obtain⟨px,hpx⟩:∃px,px=Tm.prX x:=⟨_,rfl⟩;have hp3:(Tm.prX x).length≤1000000:=by omega
      have hp6:px.length≤1000000:=by rw[hpx];exact hp3
      have KPX:=hid hp3;have KPX2:=hid hpx;clear hpx hp3;clear hTlen hPl;have z1:¬9223372036854775807 < P.length+wd.length:=by omega
      have z2:¬9223372036854775807 < 1+nm.length:=by omega
      have z3:¬9223372036854775807 < 1+px.length:=by omega
      have z4:¬9223372036854775807 < 1+px.length+1:=by omega
      have hrw101:=HS.out.row HROW.out;have c0:=hrw101.cell 0 (by simp[Tm.ag]);have c4:=hrw101.cell 4 (by simp[Tm.ag]);have c5:=hrw101.cell 5 (by simp[Tm.ag]);have c6:=hrw101.cell 6 (by simp[Tm.ag]);simp only[Tm.ag,Tm.aJ,Tm.bw,Tm.bA,Tm.ba,av,Z0,Z1,Y2]at c0 c4 c5 c6;clear hrw101;have HWD:=hid (iy gb (i * 13) wd wr KW.out c4 c5 c6);clear c4 c5 c6;go_wp2_with fail;refine HWD.out.mono ?_;rintro e w99 ⟨rfl,rfl⟩;go_wp2_with fail;refine(aC V _ _ _ HS.out ?_).mono ?_
      ·simp only[aI,aT,aH,Z7,Z6,Y3,ByteArray.size_append,aq,aN,List.size_toArray];omega
      rintro e w102 ⟨⟨rn102,rfl⟩,hs102⟩;have S102:=hid hs102;clear hs102 c0;have hrw103:=S102.out.row HROW.out;have c2:=hrw103.cell 2 (by simp[Tm.ag]);simp only[Tm.ag,Tm.aJ,Tm.bw,Tm.bA,Tm.ba,av,Z0,Z1,Y2]at c2;clear hrw103;go_wp2_with fail;refine(aC V _ _ _ S102.out ?_).mono ?_
      ·simp only[aI,aT,aH,Z7,Z6,Y3,ByteArray.size_append,aq,aN,List.size_toArray];omega
      rintro e w104 ⟨⟨rn104,rfl⟩,hs104⟩;have S104:=hid hs104;clear hs104 c2;have hrw105:=S104.out.row HROW.out;have c8:=hrw105.cell 8 (by simp[Tm.ag]);simp only[Tm.ag,Tm.aJ,Tm.bw,Tm.bA,Tm.ba,av,Z0,Z1,Y2]at c8;clear hrw105;have HXT:=hid (iV KX.out HLV.out HRB.out S104.out KFX.out (by have:=KPX.out;omega));rw[← KPX2.out]at HXT;go_wp2_with fail;refine HXT.out.mono ?_;rintro e w106 ⟨rfl,hs106⟩;have S106:=hid hs106;clear hs106 HXT;go_wp2_with fail;refine(aC V _ _ _ S106.out ?_).mono ?_
      ·simp only[aI,aT,aH,Z7,Z6,Y3,ByteArray.size_append,aq,aN,List.size_toArray];omega
      rintro e w107 ⟨⟨rn107,rfl⟩,hs107⟩;have S107:=hid hs107;clear hs107 c8;go_wp2_with fail;refine(aC V _ _ _ S107.out ?_).mono ?_
      ·simp only[aI,aT,aH,Z7,Z6,Y3,ByteArray.size_append,aq,aN,List.size_toArray];omega
      rintro e w108 ⟨⟨rn108,rfl⟩,hs108⟩;have S108:=hid hs108;clear hs108;go_wp2_with fail;go_roundw
      case rel=>exact⟨i+1,_,by go_num,by omega,hid (by rw[HNX.out,← HT.out];rw[HP.out];rw[KPX2.out];simp[Tm.prI,Tm.prH,Tm.bt,Tm.kL,Tm.cD,Tm.dE,Tm.cw,Tm.bN,aI,aT,aH]),S108⟩
      case measure=>simp[intOf];omega
     ·obtain rfl:cv= .pointer none:=hcv;cases hr with
      |none=>
       have hTlen:(T++Tm.prI d (.cons ⟨ha,(.scalar wd),nm,none,.none⟩ r)).length≤1000000:=by rw[HT.out];exact HLEN.out
       rw[Z7,show(Tm.prI d (.cons ⟨ha,(.scalar wd),nm,none,.none⟩ r)).length=_ from by unfold Tm.prI Tm.prH;simp only[Z7,Z6,Y3,Tm.bt];rfl]at hTlen;have hPl:P.length=(Tm.pad d).length:=by rw[HP.out]
       have HPL:=hid hPl;have hp4:P.length≤1000000:=by omega
       have hp5:T.length≤1000000:=by omega
       clear hTlen hPl;have z1:¬9223372036854775807 < P.length+wd.length:=by omega
       have z2:¬9223372036854775807 < 1+nm.length:=by omega
       have hrw101:=HS.out.row HROW.out;have c0:=hrw101.cell 0 (by simp[Tm.ag]);have c4:=hrw101.cell 4 (by simp[Tm.ag]);have c5:=hrw101.cell 5 (by simp[Tm.ag]);have c6:=hrw101.cell 6 (by simp[Tm.ag]);simp only[Tm.ag,Tm.aJ,Tm.bw,Tm.bA,Tm.ba,av,Z0,Z1,Y2]at c0 c4 c5 c6;clear hrw101;have HWD:=hid (iy gb (i * 13) wd wr KW.out c4 c5 c6);clear c4 c5 c6;go_wp2_with fail;refine HWD.out.mono ?_;rintro e w99 ⟨rfl,rfl⟩;go_wp2_with fail;refine(aC V _ _ _ HS.out ?_).mono ?_
       ·simp only[aI,aT,aH,Z7,Z6,Y3,ByteArray.size_append,aq,aN,List.size_toArray];omega
       rintro e w102 ⟨⟨rn102,rfl⟩,hs102⟩;have S102:=hid hs102;clear hs102 c0;have hrw103:=S102.out.row HROW.out;have c2:=hrw103.cell 2 (by simp[Tm.ag]);simp only[Tm.ag,Tm.aJ,Tm.bw,Tm.bA,Tm.ba,av,Z0,Z1,Y2]at c2;clear hrw103;go_wp2_with fail;refine(aC V _ _ _ S102.out ?_).mono ?_
       ·simp only[aI,aT,aH,Z7,Z6,Y3,ByteArray.size_append,aq,aN,List.size_toArray];omega
       rintro e w104 ⟨⟨rn104,rfl⟩,hs104⟩;have S104:=hid hs104;clear hs104 c2;have hrw105:=S104.out.row HROW.out;have c8:=hrw105.cell 8 (by simp[Tm.ag]);have c9:=hrw105.cell 9 (by simp[Tm.ag]);have c10:=hrw105.cell 10 (by simp[Tm.ag]);have c11:=hrw105.cell 11 (by simp[Tm.ag]);simp only[Tm.ag,Tm.aJ,Tm.bw,Tm.bA,Tm.ba,av,Z0,Z1,Y2]at c8 c9 c10 c11;clear hrw105;go_wp2_with fail;go_quiet (fail);have S106:=hid (ib.up (w':=World.drewN w104 nq) S104.out ⟨rfl,rfl,rfl,Z5 _,fun _ _=>rfl⟩);generalize World.drewN _ nq=wq106 at *
       clear c8 c9 c10 c11;have hrw107:=S106.out.row HROW.out;have c8:=hrw107.cell 8 (by simp[Tm.ag]);have c9:=hrw107.cell 9 (by simp[Tm.ag]);have c10:=hrw107.cell 10 (by simp[Tm.ag]);have c11:=hrw107.cell 11 (by simp[Tm.ag]);simp only[Tm.ag,Tm.aJ,Tm.bw,Tm.bA,Tm.ba,av,Z0,Z1,Y2]at c8 c9 c10 c11;clear hrw107;go_wp2_with fail;go_wp2_with fail;refine(aC V _ _ _ S106.out ?_).mono ?_
       ·simp only[aI,aT,aH,Z7,Z6,Y3,ByteArray.size_append,aq,aN,List.size_toArray];omega
       rintro e w108 ⟨⟨rn108,rfl⟩,hs108⟩;have S108:=hid hs108;clear hs108;go_wp2_with fail;go_roundw
       case rel=>exact⟨i+1,_,by go_num,by omega,hid (by rw[HNX.out,← HT.out];rw[HP.out];simp[Tm.prI,Tm.prH,Tm.bt,Tm.kL,Tm.cD,Tm.dE,Tm.cw,Tm.bN,aI,aT,aH]),S108⟩
       case measure=>simp[intOf];omega
      |size rf=>
       have hrl:=Tm.cg hfr.2;clear hfr;have hTlen:(T++Tm.prI d (.cons ⟨ha,(.scalar wd),nm,none,(.size rf)⟩ r)).length≤1000000:=by rw[HT.out];exact HLEN.out
       rw[Z7,show(Tm.prI d (.cons ⟨ha,(.scalar wd),nm,none,(.size rf)⟩ r)).length=_ from by unfold Tm.prI Tm.prH;simp only[Z7,Z6,Y3,Tm.bt];rfl]at hTlen;have hPl:P.length=(Tm.pad d).length:=by rw[HP.out]
       have HPL:=hid hPl;have hp4:P.length≤1000000:=by omega
       have hp5:T.length≤1000000:=by omega
       clear hTlen hPl;have z1:¬9223372036854775807 < P.length+wd.length:=by omega
       have z2:¬9223372036854775807 < 1+nm.length:=by omega
       have z3:¬9223372036854775807 < 8+rf.length:=by omega
       have hrw101:=HS.out.row HROW.out;have c0:=hrw101.cell 0 (by simp[Tm.ag]);have c4:=hrw101.cell 4 (by simp[Tm.ag]);have c5:=hrw101.cell 5 (by simp[Tm.ag]);have c6:=hrw101.cell 6 (by simp[Tm.ag]);simp only[Tm.ag,Tm.aJ,Tm.bw,Tm.bA,Tm.ba,av,Z0,Z1,Y2]at c0 c4 c5 c6;clear hrw101;have HWD:=hid (iy gb (i * 13) wd wr KW.out c4 c5 c6);clear c4 c5 c6;go_wp2_with fail;refine HWD.out.mono ?_;rintro e w99 ⟨rfl,rfl⟩;go_wp2_with fail;refine(aC V _ _ _ HS.out ?_).mono ?_
       ·simp only[aI,aT,aH,Z7,Z6,Y3,ByteArray.size_append,aq,aN,List.size_toArray];omega
       rintro e w102 ⟨⟨rn102,rfl⟩,hs102⟩;have S102:=hid hs102;clear hs102 c0;have hrw103:=S102.out.row HROW.out;have c2:=hrw103.cell 2 (by simp[Tm.ag]);simp only[Tm.ag,Tm.aJ,Tm.bw,Tm.bA,Tm.ba,av,Z0,Z1,Y2]at c2;clear hrw103;go_wp2_with fail;refine(aC V _ _ _ S102.out ?_).mono ?_
       ·simp only[aI,aT,aH,Z7,Z6,Y3,ByteArray.size_append,aq,aN,List.size_toArray];omega
       rintro e w104 ⟨⟨rn104,rfl⟩,hs104⟩;have S104:=hid hs104;clear hs104 c2;have hrw105:=S104.out.row HROW.out;have c8:=hrw105.cell 8 (by simp[Tm.ag]);have c9:=hrw105.cell 9 (by simp[Tm.ag]);have c10:=hrw105.cell 10 (by simp[Tm.ag]);have c11:=hrw105.cell 11 (by simp[Tm.ag]);simp only[Tm.ag,Tm.aJ,Tm.bw,Tm.bA,Tm.ba,av,Z0,Z1,Y2]at c8 c9 c10 c11;clear hrw105;go_wp2_with fail;refine(aC V _ _ _ S104.out ?_).mono ?_
       ·simp only[aI,aT,aH,Z7,Z6,Y3,ByteArray.size_append,aq,aN,List.size_toArray];omega
       rintro e w106 ⟨⟨rn106,rfl⟩,hs106⟩;have S106:=hid hs106;clear hs106 c8 c9 c10 c11;go_wp2_with fail;refine(aC V _ _ _ S106.out ?_).mono ?_
       ·simp only[aI,aT,aH,Z7,Z6,Y3,ByteArray.size_append,aq,aN,List.size_toArray];omega
       rintro e w107 ⟨⟨rn107,rfl⟩,hs107⟩;have S107:=hid hs107;clear hs107;go_wp2_with fail;go_roundw
       case rel=>exact⟨i+1,_,by go_num,by omega,hid (by rw[HNX.out,← HT.out];rw[HP.out];simp[Tm.prI,Tm.prH,Tm.bt,Tm.kL,Tm.cD,Tm.dE,Tm.cw,Tm.bN,aI,aT,aH]),S107⟩
       case measure=>simp[intOf];omega
      |count rf=>
       have hrl:=Tm.cg hfr.2;clear hfr;have hTlen:(T++Tm.prI d (.cons ⟨ha,(.scalar wd),nm,none,(.count rf)⟩ r)).length≤1000000:=by rw[HT.out];exact HLEN.out
       rw[Z7,show(Tm.prI d (.cons ⟨ha,(.scalar wd),nm,none,(.count rf)⟩ r)).length=_ from by unfold Tm.prI Tm.prH;simp only[Z7,Z6,Y3,Tm.bt];rfl]at hTlen;have hPl:P.length=(Tm.pad d).length:=by rw[HP.out]
       have HPL:=hid hPl;have hp4:P.length≤1000000:=by omega
       have hp5:T.length≤1000000:=by omega
       clear hTlen hPl;have z1:¬9223372036854775807 < P.length+wd.length:=by omega
       have z2:¬9223372036854775807 < 1+nm.length:=by omega
       have z3:¬9223372036854775807 < 9+rf.length:=by omega
       have hrw101:=HS.out.row HROW.out;have c0:=hrw101.cell 0 (by simp[Tm.ag]);have c4:=hrw101.cell 4 (by simp[Tm.ag]);have c5:=hrw101.cell 5 (by simp[Tm.ag]);have c6:=hrw101.cell 6 (by simp[Tm.ag]);simp only[Tm.ag,Tm.aJ,Tm.bw,Tm.bA,Tm.ba,av,Z0,Z1,Y2]at c0 c4 c5 c6;clear hrw101;have HWD:=hid (iy gb (i * 13) wd wr KW.out c4 c5 c6);clear c4 c5 c6;go_wp2_with fail;refine HWD.out.mono ?_;rintro e w99 ⟨rfl,rfl⟩;go_wp2_with fail;refine(aC V _ _ _ HS.out ?_).mono ?_
       ·simp only[aI,aT,aH,Z7,Z6,Y3,ByteArray.size_append,aq,aN,List.size_toArray];omega
       rintro e w102 ⟨⟨rn102,rfl⟩,hs102⟩;have S102:=hid hs102;clear hs102 c0;have hrw103:=S102.out.row HROW.out;have c2:=hrw103.cell 2 (by simp[Tm.ag]);simp only[Tm.ag,Tm.aJ,Tm.bw,Tm.bA,Tm.ba,av,Z0,Z1,Y2]at c2;clear hrw103;go_wp2_with fail;refine(aC V _ _ _ S102.out ?_).mono ?_
       ·simp only[aI,aT,aH,Z7,Z6,Y3,ByteArray.size_append,aq,aN,List.size_toArray];omega
       rintro e w104 ⟨⟨rn104,rfl⟩,hs104⟩;have S104:=hid hs104;clear hs104 c2;have hrw105:=S104.out.row HROW.out;have c8:=hrw105.cell 8 (by simp[Tm.ag]);have c9:=hrw105.cell 9 (by simp[Tm.ag]);have c10:=hrw105.cell 10 (by simp[Tm.ag]);have c11:=hrw105.cell 11 (by simp[Tm.ag]);simp only[Tm.ag,Tm.aJ,Tm.bw,Tm.bA,Tm.ba,av,Z0,Z1,Y2]at c8 c9 c10 c11;clear hrw105;go_wp2_with fail;refine(aC V _ _ _ S104.out ?_).mono ?_
       ·simp only[aI,aT,aH,Z7,Z6,Y3,ByteArray.size_append,aq,aN,List.size_toArray];omega
       rintro e w106 ⟨⟨rn106,rfl⟩,hs106⟩;have S106:=hid hs106;clear hs106 c8 c9 c10 c11;go_wp2_with fail;refine(aC V _ _ _ S106.out ?_).mono ?_
       ·simp only[aI,aT,aH,Z7,Z6,Y3,ByteArray.size_append,aq,aN,List.size_toArray];omega
       rintro e w107 ⟨⟨rn107,rfl⟩,hs107⟩;have S107:=hid hs107;clear hs107;go_wp2_with fail;go_roundw
       case rel=>exact⟨i+1,_,by go_num,by omega,hid (by rw[HNX.out,← HT.out];rw[HP.out];simp[Tm.prI,Tm.prH,Tm.bt,Tm.kL,Tm.cD,Tm.dE,Tm.cw,Tm.bN,aI,aT,aH]),S107⟩
       case measure=>simp[intOf];omega
      |check rf rl=>
       have hrl:=Tm.cg hfr.1.2;have hrl2:=Tm.cg hfr.2.2;clear hfr
       by_cases hne:rl=rf
       ·subst hne;have hTlen:(T++Tm.prI d (.cons ⟨ha,(.scalar wd),nm,none,(.check rl rl)⟩ r)).length≤1000000:=by rw[HT.out];exact HLEN.out
        rw[Z7,show(Tm.prI d (.cons ⟨ha,(.scalar wd),nm,none,(.check rl rl)⟩ r)).length=_ from by unfold Tm.prI Tm.prH;simp only[Z7,Z6,Y3,Tm.bt];rfl]at hTlen;have hPl:P.length=(Tm.pad d).length:=by rw[HP.out]
        have HPL:=hid hPl;have hp4:P.length≤1000000:=by omega
        have hp5:T.length≤1000000:=by omega
        clear hTlen hPl;have z1:¬9223372036854775807 < P.length+wd.length:=by omega
        have z2:¬9223372036854775807 < 1+nm.length:=by omega
        have z3:¬9223372036854775807 < 9+rl.length:=by omega
        have hrw101:=HS.out.row HROW.out;have c0:=hrw101.cell 0 (by simp[Tm.ag]);have c4:=hrw101.cell 4 (by simp[Tm.ag]);have c5:=hrw101.cell 5 (by simp[Tm.ag]);have c6:=hrw101.cell 6 (by simp[Tm.ag]);simp only[Tm.ag,Tm.aJ,Tm.bw,Tm.bA,Tm.ba,av,Z0,Z1,Y2]at c0 c4 c5 c6;clear hrw101;have HWD:=hid (iy gb (i * 13) wd wr KW.out c4 c5 c6);clear c4 c5 c6;go_wp2_with fail;refine HWD.out.mono ?_;rintro e w99 ⟨rfl,rfl⟩;go_wp2_with fail;refine(aC V _ _ _ HS.out ?_).mono ?_
        ·simp only[aI,aT,aH,Z7,Z6,Y3,ByteArray.size_append,aq,aN,List.size_toArray];omega
        rintro e w102 ⟨⟨rn102,rfl⟩,hs102⟩;have S102:=hid hs102;clear hs102 c0;have hrw103:=S102.out.row HROW.out;have c2:=hrw103.cell 2 (by simp[Tm.ag]);simp only[Tm.ag,Tm.aJ,Tm.bw,Tm.bA,Tm.ba,av,Z0,Z1,Y2]at c2;clear hrw103;go_wp2_with fail;refine(aC V _ _ _ S102.out ?_).mono ?_
        ·simp only[aI,aT,aH,Z7,Z6,Y3,ByteArray.size_append,aq,aN,List.size_toArray];omega
        rintro e w104 ⟨⟨rn104,rfl⟩,hs104⟩;have S104:=hid hs104;clear hs104 c2;have hrw105:=S104.out.row HROW.out;have c8:=hrw105.cell 8 (by simp[Tm.ag]);have c9:=hrw105.cell 9 (by simp[Tm.ag]);have c10:=hrw105.cell 10 (by simp[Tm.ag]);have c11:=hrw105.cell 11 (by simp[Tm.ag]);simp only[Tm.ag,Tm.aJ,Tm.bw,Tm.bA,Tm.ba,av,Z0,Z1,Y2]at c8 c9 c10 c11;clear hrw105;have q9:(rl==rl)=true:=by simp
        go_wp2_with fail;go_quiet (fail);have S106:=hid (ib.up (w':=World.drewN w104 nq) S104.out ⟨rfl,rfl,rfl,Z5 _,fun _ _=>rfl⟩);generalize World.drewN _ nq=wq106 at *
        clear c8 c9 c10 c11;have hrw107:=S106.out.row HROW.out;have c8:=hrw107.cell 8 (by simp[Tm.ag]);have c9:=hrw107.cell 9 (by simp[Tm.ag]);have c10:=hrw107.cell 10 (by simp[Tm.ag]);have c11:=hrw107.cell 11 (by simp[Tm.ag]);simp only[Tm.ag,Tm.aJ,Tm.bw,Tm.bA,Tm.ba,av,Z0,Z1,Y2]at c8 c9 c10 c11;clear hrw107;go_wp2_with fail;refine(aC V _ _ _ S106.out ?_).mono ?_
        ·simp only[aI,aT,aH,Z7,Z6,Y3,ByteArray.size_append,aq,aN,List.size_toArray];omega
        rintro e w108 ⟨⟨rn108,rfl⟩,hs108⟩;have S108:=hid hs108;clear hs108 c8 c9 c10 c11;go_wp2_with fail;refine(aC V _ _ _ S108.out ?_).mono ?_
        ·simp only[aI,aT,aH,Z7,Z6,Y3,ByteArray.size_append,aq,aN,List.size_toArray];omega
        rintro e w109 ⟨⟨rn109,rfl⟩,hs109⟩;have S109:=hid hs109;clear hs109;go_wp2_with fail;go_roundw
        case rel=>exact⟨i+1,_,by go_num,by omega,hid (by rw[HNX.out,← HT.out];rw[HP.out];simp[Tm.prI,Tm.prH,Tm.bt,Tm.kL,Tm.cD,Tm.dE,Tm.cw,Tm.bN,aI,aT,aH]),S109⟩
        case measure=>simp[intOf];omega
       ·have KNE:=hid hne;clear hne;have hTlen:(T++Tm.prI d (.cons ⟨ha,(.scalar wd),nm,none,(.check rf rl)⟩ r)).length≤1000000:=by rw[HT.out];exact HLEN.out
        rw[Z7,show(Tm.prI d (.cons ⟨ha,(.scalar wd),nm,none,(.check rf rl)⟩ r)).length=_ from by unfold Tm.prI Tm.prH;simp only[Z7,Z6,Y3,Tm.bt];rfl]at hTlen;have hPl:P.length=(Tm.pad d).length:=by rw[HP.out]
        have HPL:=hid hPl;have hp4:P.length≤1000000:=by omega
        have hp5:T.length≤1000000:=by omega
        clear hTlen hPl;have z1:¬9223372036854775807 < P.length+wd.length:=by omega
        have z2:¬9223372036854775807 < 1+nm.length:=by omega
        have z3:¬9223372036854775807 < 9+rf.length:=by omega
        have z4:¬9223372036854775807 < 9+rf.length+1:=by omega
        have z5:¬9223372036854775807 < 9+rf.length+1+rl.length:=by omega
        have hrw101:=HS.out.row HROW.out;have c0:=hrw101.cell 0 (by simp[Tm.ag]);have c4:=hrw101.cell 4 (by simp[Tm.ag]);have c5:=hrw101.cell 5 (by simp[Tm.ag]);have c6:=hrw101.cell 6 (by simp[Tm.ag]);simp only[Tm.ag,Tm.aJ,Tm.bw,Tm.bA,Tm.ba,av,Z0,Z1,Y2]at c0 c4 c5 c6;clear hrw101;have HWD:=hid (iy gb (i * 13) wd wr KW.out c4 c5 c6);clear c4 c5 c6;go_wp2_with fail;refine HWD.out.mono ?_;rintro e w99 ⟨rfl,rfl⟩;go_wp2_with fail;refine(aC V _ _ _ HS.out ?_).mono ?_
        ·simp only[aI,aT,aH,Z7,Z6,Y3,ByteArray.size_append,aq,aN,List.size_toArray];omega
        rintro e w102 ⟨⟨rn102,rfl⟩,hs102⟩;have S102:=hid hs102;clear hs102 c0;have hrw103:=S102.out.row HROW.out;have c2:=hrw103.cell 2 (by simp[Tm.ag]);simp only[Tm.ag,Tm.aJ,Tm.bw,Tm.bA,Tm.ba,av,Z0,Z1,Y2]at c2;clear hrw103;go_wp2_with fail;refine(aC V _ _ _ S102.out ?_).mono ?_
        ·simp only[aI,aT,aH,Z7,Z6,Y3,ByteArray.size_append,aq,aN,List.size_toArray];omega
        rintro e w104 ⟨⟨rn104,rfl⟩,hs104⟩;have S104:=hid hs104;clear hs104 c2;have hrw105:=S104.out.row HROW.out;have c8:=hrw105.cell 8 (by simp[Tm.ag]);have c9:=hrw105.cell 9 (by simp[Tm.ag]);have c10:=hrw105.cell 10 (by simp[Tm.ag]);have c11:=hrw105.cell 11 (by simp[Tm.ag]);simp only[Tm.ag,Tm.aJ,Tm.bw,Tm.bA,Tm.ba,av,Z0,Z1,Y2]at c8 c9 c10 c11;clear hrw105;have q9:(rl==rf)=false:=by rw[Z8];exact KNE.out
        go_wp2_with fail;go_quiet (fail);have S106:=hid (ib.up (w':=World.drewN w104 nq) S104.out ⟨rfl,rfl,rfl,Z5 _,fun _ _=>rfl⟩);generalize World.drewN _ nq=wq106 at *
        clear c8 c9 c10 c11;have hrw107:=S106.out.row HROW.out;have c8:=hrw107.cell 8 (by simp[Tm.ag]);have c9:=hrw107.cell 9 (by simp[Tm.ag]);have c10:=hrw107.cell 10 (by simp[Tm.ag]);have c11:=hrw107.cell 11 (by simp[Tm.ag]);simp only[Tm.ag,Tm.aJ,Tm.bw,Tm.bA,Tm.ba,av,Z0,Z1,Y2]at c8 c9 c10 c11;clear hrw107;go_wp2_with fail;go_still_tail 12,(by kernel_rfl);have S156:=hid (S106.out.up (Below.drew (Y4 _ _)));change wpList _ _ _ _ _ wq106.drew;go_wp2_with fail;refine(aC V _ _ _ S156.out ?_).mono ?_
        ·simp only[aI,aT,aH,Z7,Z6,Y3,ByteArray.size_append,aq,aN,List.size_toArray];omega
        rintro e w108 ⟨⟨rn108,rfl⟩,hs108⟩;have S108:=hid hs108;clear hs108 c8 c9 c10 c11;go_wp2_with fail;refine(aC V _ _ _ S108.out ?_).mono ?_
        ·simp only[aI,aT,aH,Z7,Z6,Y3,ByteArray.size_append,aq,aN,List.size_toArray];omega
        rintro e w109 ⟨⟨rn109,rfl⟩,hs109⟩;have S109:=hid hs109;clear hs109;go_wp2_with fail;go_roundw
        case rel=>exact⟨i+1,_,by go_num,by omega,hid (by rw[HNX.out,← HT.out];rw[HP.out];simp[Tm.prI,Tm.prH,Tm.bt,Tm.kL,Tm.cD,Tm.dE,Tm.cw,Tm.bN,aI,aT,aH,KNE.out]),S109⟩
        case measure=>simp[intOf];omega
    ·obtain⟨bx,rfl,hx⟩:=hcv;have KX:=hid hx;have KFX:=hid hfx;clear hx hfx;have hTlen:(T++Tm.prI d (.cons ⟨ha,.bytes,nm,some x,.none⟩ r)).length≤1000000:=by rw[HT.out];exact HLEN.out
     rw[Z7,show(Tm.prI d (.cons ⟨ha,.bytes,nm,some x,.none⟩ r)).length=_ from by unfold Tm.prI Tm.prH;simp only[Z7,Z6,Y3,Tm.bt];rfl]at hTlen;have hPl:P.length=(Tm.pad d).length:=by rw[HP.out]
     have HPL:=hid hPl;have hp4:P.length≤1000000:=by omega
     have hp5:T.length≤1000000:=by omega
     obtain⟨px,hpx⟩:∃px,px=Tm.prX x:=⟨_,rfl⟩;have hp3:(Tm.prX x).length≤1000000:=by omega
     have hp6:px.length≤1000000:=by rw[hpx];exact hp3
     have KPX:=hid hp3;have KPX2:=hid hpx;clear hpx hp3;clear hTlen hPl;have z1:¬9223372036854775807 < P.length+5:=by omega
     have z2:¬9223372036854775807 < 1+nm.length:=by omega
     have z3:¬9223372036854775807 < 1+px.length:=by omega
     have z4:¬9223372036854775807 < 1+px.length+1:=by omega
     have hrw101:=HS.out.row HROW.out;have c0:=hrw101.cell 0 (by simp[Tm.ag]);simp only[Tm.ag,Tm.aJ,Tm.bw,Tm.bA,Tm.ba,av,Z0,Z1,Y2]at c0;clear hrw101;go_wp2_with fail;refine(aC V _ _ _ HS.out ?_).mono ?_
     ·simp only[aI,aT,aH,Z7,Z6,Y3,ByteArray.size_append,aq,aN,List.size_toArray];omega
     rintro e w102 ⟨⟨rn102,rfl⟩,hs102⟩;have S102:=hid hs102;clear hs102 c0;have hrw103:=S102.out.row HROW.out;have c2:=hrw103.cell 2 (by simp[Tm.ag]);simp only[Tm.ag,Tm.aJ,Tm.bw,Tm.bA,Tm.ba,av,Z0,Z1,Y2]at c2;clear hrw103;go_wp2_with fail;refine(aC V _ _ _ S102.out ?_).mono ?_
     ·simp only[aI,aT,aH,Z7,Z6,Y3,ByteArray.size_append,aq,aN,List.size_toArray];omega
     rintro e w104 ⟨⟨rn104,rfl⟩,hs104⟩;have S104:=hid hs104;clear hs104 c2;have hrw105:=S104.out.row HROW.out;have c8:=hrw105.cell 8 (by simp[Tm.ag]);simp only[Tm.ag,Tm.aJ,Tm.bw,Tm.bA,Tm.ba,av,Z0,Z1,Y2]at c8;clear hrw105;have HXT:=hid (iV KX.out HLV.out HRB.out S104.out KFX.out (by have:=KPX.out;omega));rw[← KPX2.out]at HXT;go_wp2_with fail;refine HXT.out.mono ?_;rintro e w106 ⟨rfl,hs106⟩;have S106:=hid hs106;clear hs106 HXT;go_wp2_with fail;refine(aC V _ _ _ S106.out ?_).mono ?_
     ·simp only[aI,aT,aH,Z7,Z6,Y3,ByteArray.size_append,aq,aN,List.size_toArray];omega
     rintro e w107 ⟨⟨rn107,rfl⟩,hs107⟩;have S107:=hid hs107;clear hs107 c8;go_wp2_with fail;refine(aC V _ _ _ S107.out ?_).mono ?_
     ·simp only[aI,aT,aH,Z7,Z6,Y3,ByteArray.size_append,aq,aN,List.size_toArray];omega
     rintro e w108 ⟨⟨rn108,rfl⟩,hs108⟩;have S108:=hid hs108;clear hs108;go_wp2_with fail;go_roundw
     case rel=>exact⟨i+1,_,by go_num,by omega,hid (by rw[HNX.out,← HT.out];rw[HP.out];rw[KPX2.out];simp[Tm.prI,Tm.prH,Tm.bt,Tm.kL,Tm.cD,Tm.dE,Tm.cw,Tm.bN,aI,aT,aH]),S108⟩
     case measure=>simp[intOf];omega
    ·have hwl:=Tm.cg hw.2;clear hw;rcases hcs with⟨x,rfl,rfl,hfx⟩|⟨rfl,rfl⟩
     ·obtain⟨bx,rfl,hx⟩:=hcv;have KX:=hid hx;have KFX:=hid hfx;clear hx hfx;have hTlen:(T++Tm.prI d (.cons ⟨ha,(.struct wd),nm,some x,.none⟩ r)).length≤1000000:=by rw[HT.out];exact HLEN.out
      rw[Z7,show(Tm.prI d (.cons ⟨ha,(.struct wd),nm,some x,.none⟩ r)).length=_ from by unfold Tm.prI Tm.prH;simp only[Z7,Z6,Y3,Tm.bt];rfl]at hTlen;have hPl:P.length=(Tm.pad d).length:=by rw[HP.out]
      have HPL:=hid hPl;have hp4:P.length≤1000000:=by omega
      have hp5:T.length≤1000000:=by omega
      obtain⟨px,hpx⟩:∃px,px=Tm.prX x:=⟨_,rfl⟩;have hp3:(Tm.prX x).length≤1000000:=by omega
      have hp6:px.length≤1000000:=by rw[hpx];exact hp3
      have KPX:=hid hp3;have KPX2:=hid hpx;clear hpx hp3;clear hTlen hPl;have z1:¬9223372036854775807 < P.length+wd.length:=by omega
      have z2:¬9223372036854775807 < 1+nm.length:=by omega
      have z3:¬9223372036854775807 < 1+px.length:=by omega
      have z4:¬9223372036854775807 < 1+px.length+1:=by omega
      have hrw101:=HS.out.row HROW.out;have c0:=hrw101.cell 0 (by simp[Tm.ag]);have c3:=hrw101.cell 3 (by simp[Tm.ag]);simp only[Tm.ag,Tm.aJ,Tm.bw,Tm.bA,Tm.ba,av,Z0,Z1,Y2]at c0 c3;clear hrw101;go_wp2_with fail;refine(aC V _ _ _ HS.out ?_).mono ?_
      ·simp only[aI,aT,aH,Z7,Z6,Y3,ByteArray.size_append,aq,aN,List.size_toArray];omega
      rintro e w102 ⟨⟨rn102,rfl⟩,hs102⟩;have S102:=hid hs102;clear hs102 c0;have hrw103:=S102.out.row HROW.out;have c2:=hrw103.cell 2 (by simp[Tm.ag]);simp only[Tm.ag,Tm.aJ,Tm.bw,Tm.bA,Tm.ba,av,Z0,Z1,Y2]at c2;clear hrw103;go_wp2_with fail;refine(aC V _ _ _ S102.out ?_).mono ?_
      ·simp only[aI,aT,aH,Z7,Z6,Y3,ByteArray.size_append,aq,aN,List.size_toArray];omega
      rintro e w104 ⟨⟨rn104,rfl⟩,hs104⟩;have S104:=hid hs104;clear hs104 c2;have hrw105:=S104.out.row HROW.out;have c8:=hrw105.cell 8 (by simp[Tm.ag]);simp only[Tm.ag,Tm.aJ,Tm.bw,Tm.bA,Tm.ba,av,Z0,Z1,Y2]at c8;clear hrw105;have HXT:=hid (iV KX.out HLV.out HRB.out S104.out KFX.out (by have:=KPX.out;omega));rw[← KPX2.out]at HXT;go_wp2_with fail;refine HXT.out.mono ?_;rintro e w106 ⟨rfl,hs106⟩;have S106:=hid hs106;clear hs106 HXT;go_wp2_with fail;refine(aC V _ _ _ S106.out ?_).mono ?_
      ·simp only[aI,aT,aH,Z7,Z6,Y3,ByteArray.size_append,aq,aN,List.size_toArray];omega
      rintro e w107 ⟨⟨rn107,rfl⟩,hs107⟩;have S107:=hid hs107;clear hs107 c8;go_wp2_with fail;refine(aC V _ _ _ S107.out ?_).mono ?_
      ·simp only[aI,aT,aH,Z7,Z6,Y3,ByteArray.size_append,aq,aN,List.size_toArray];omega
      rintro e w108 ⟨⟨rn108,rfl⟩,hs108⟩;have S108:=hid hs108;clear hs108;go_wp2_with fail;go_roundw
      case rel=>exact⟨i+1,_,by go_num,by omega,hid (by rw[HNX.out,← HT.out];rw[HP.out];rw[KPX2.out];simp[Tm.prI,Tm.prH,Tm.bt,Tm.kL,Tm.cD,Tm.dE,Tm.cw,Tm.bN,aI,aT,aH]),S108⟩
      case measure=>simp[intOf];omega
     ·obtain rfl:cv= .pointer none:=hcv;have hTlen:(T++Tm.prI d (.cons ⟨ha,(.struct wd),nm,none,.none⟩ r)).length≤1000000:=by rw[HT.out];exact HLEN.out
      rw[Z7,show(Tm.prI d (.cons ⟨ha,(.struct wd),nm,none,.none⟩ r)).length=_ from by unfold Tm.prI Tm.prH;simp only[Z7,Z6,Y3,Tm.bt];rfl]at hTlen;have hPl:P.length=(Tm.pad d).length:=by rw[HP.out]
      have HPL:=hid hPl;have hp4:P.length≤1000000:=by omega
      have hp5:T.length≤1000000:=by omega
      clear hTlen hPl;have z1:¬9223372036854775807 < P.length+wd.length:=by omega
      have z2:¬9223372036854775807 < 1+nm.length:=by omega
      have hrw101:=HS.out.row HROW.out;have c0:=hrw101.cell 0 (by simp[Tm.ag]);have c3:=hrw101.cell 3 (by simp[Tm.ag]);simp only[Tm.ag,Tm.aJ,Tm.bw,Tm.bA,Tm.ba,av,Z0,Z1,Y2]at c0 c3;clear hrw101;go_wp2_with fail;refine(aC V _ _ _ HS.out ?_).mono ?_
      ·simp only[aI,aT,aH,Z7,Z6,Y3,ByteArray.size_append,aq,aN,List.size_toArray];omega
      rintro e w102 ⟨⟨rn102,rfl⟩,hs102⟩;have S102:=hid hs102;clear hs102 c0;have hrw103:=S102.out.row HROW.out;have c2:=hrw103.cell 2 (by simp[Tm.ag]);simp only[Tm.ag,Tm.aJ,Tm.bw,Tm.bA,Tm.ba,av,Z0,Z1,Y2]at c2;clear hrw103;go_wp2_with fail;refine(aC V _ _ _ S102.out ?_).mono ?_
      ·simp only[aI,aT,aH,Z7,Z6,Y3,ByteArray.size_append,aq,aN,List.size_toArray];omega
      rintro e w104 ⟨⟨rn104,rfl⟩,hs104⟩;have S104:=hid hs104;clear hs104 c2;have hrw105:=S104.out.row HROW.out;have c8:=hrw105.cell 8 (by simp[Tm.ag]);have c9:=hrw105.cell 9 (by simp[Tm.ag]);have c10:=hrw105.cell 10 (by simp[Tm.ag]);have c11:=hrw105.cell 11 (by simp[Tm.ag]);simp only[Tm.ag,Tm.aJ,Tm.bw,Tm.bA,Tm.ba,av,Z0,Z1,Y2]at c8 c9 c10 c11;clear hrw105;go_wp2_with fail;go_quiet (fail);have S106:=hid (ib.up (w':=World.drewN w104 nq) S104.out ⟨rfl,rfl,rfl,Z5 _,fun _ _=>rfl⟩);generalize World.drewN _ nq=wq106 at *
      clear c8 c9 c10 c11;have hrw107:=S106.out.row HROW.out;have c8:=hrw107.cell 8 (by simp[Tm.ag]);have c9:=hrw107.cell 9 (by simp[Tm.ag]);have c10:=hrw107.cell 10 (by simp[Tm.ag]);have c11:=hrw107.cell 11 (by simp[Tm.ag]);simp only[Tm.ag,Tm.aJ,Tm.bw,Tm.bA,Tm.ba,av,Z0,Z1,Y2]at c8 c9 c10 c11;clear hrw107;go_wp2_with fail;go_wp2_with fail;refine(aC V _ _ _ S106.out ?_).mono ?_
      ·simp only[aI,aT,aH,Z7,Z6,Y3,ByteArray.size_append,aq,aN,List.size_toArray];omega
      rintro e w108 ⟨⟨rn108,rfl⟩,hs108⟩;have S108:=hid hs108;clear hs108;go_wp2_with fail;go_roundw
      case rel=>exact⟨i+1,_,by go_num,by omega,hid (by rw[HNX.out,← HT.out];rw[HP.out];simp[Tm.prI,Tm.prH,Tm.bt,Tm.kL,Tm.cD,Tm.dE,Tm.cw,Tm.bN,aI,aT,aH]),S108⟩
      case measure=>simp[intOf];omega
   ·rw[hdr]at HT HFD HSD;obtain⟨cb,gb2,capb,bb,hx,hob,heb,hrow,hnx⟩:=Tm.bu.wh HO.out HE.out hdr;have HX:=hid hx;have HOB:=hid hob;have HEB:=hid heb;have HROW:=hid hrow;have HNX:=hid hnx;clear hx hob heb hrow hnx hdr;have hrw1:=HS.out.row HROW.out;have c0:=hrw1.cell 0 (by simp[Tm.au]);have c8:=hrw1.cell 8 (by simp[Tm.au]);simp only[Tm.au,Z0,Z1,Y2]at c0 c8;have hTlen:(T++Tm.prI d (.when a c b r)).length≤1000000:=by rw[HT.out];exact HLEN.out
    rw[Z7,show(Tm.prI d (.when a c b r)).length=_ from by unfold Tm.prI;simp only[Z7,Z6,Y3];rfl]at hTlen;have hPl:P.length=(Tm.pad d).length:=by rw[HP.out]
    have HTL:=hid hTlen;have HPL:=hid hPl;have HXT:=hid (iV HX.out HLV.out HRB.out HS.out HFD.out.1 (by omega));obtain⟨px,hpx⟩:∃px,px=Tm.prX c:=⟨_,rfl⟩;rw[← hpx]at HXT;have HPX:=hid hpx;have hp3:px.length≤1000000:=by rw[hpx];omega
    have hp4:P.length≤1000000:=by omega
    have z1:¬9223372036854775807 < P.length+5:=by omega
    have z2:¬9223372036854775807 < P.length+5+px.length:=by omega
    have z3:¬9223372036854775807 < P.length+5+px.length+3:=by omega
    have z4:¬9223372036854775807 < P.length+2:=by omega
    clear hrw1 hTlen hPl hpx;go_wp2_with fail;refine HXT.out.mono ?_;rintro e w2 ⟨rfl,hs2⟩;have S2:=hid hs2;clear hs2 HXT c0 c8;go_wp2_with fail;refine(aC V _ _ _ S2.out ?_).mono ?_
    ·have h1:=HTL.out;have h2:=HPL.out;have h3:=congrArg List.length HPX.out;have h4:Tm.dD.length=4:=rfl;simp only[aI,aT,aH,Z7,Z6,Y3,ByteArray.size_append,aq,aN,List.size_toArray];omega
    rintro e w3 ⟨⟨rn3,rfl⟩,hs3⟩;have S3:=hid hs3;have hrw3:=hs3.row HROW.out;have c12:=hrw3.cell 12 (by simp[Tm.au]);simp only[Tm.au,Z0,Z1,Y2]at c12;clear hs3 hrw3;have hd1:=(HDD.out (by have:=HN.out;omega)).1;go_wp2_with fail;have hbl:(T++(aa P++{data:= #[119,104,101,110,32]}++aa px++{data:= #[32,123,10]}).data.toList++Tm.prI (d+1) b).length≤1000000:=by
     have h1:=HTL.out;have h2:=HPL.out;have h3:=congrArg List.length HPX.out;have h4:Tm.dD.length=4:=rfl;simp only[aI,aT,aH,Z7,Z6,Y3];omega
    have HBD:=hid (show Calls Tryz.prog 82 #[.pointer (some ⟨V.heap.size,0,none⟩),.slice gb2 (Tm.Its.len b) capb,.int .i64 ((d:Int)+1)] w3 (fun e w'=>e= .returned (.tuple #[])∧ib V w' _)from
     HBB.out b HFD.out.2.1 (by have:=HSD.out;simp only[Tm.Its.sz]at this;omega) V w3 rb (d+1) capb gb2 bb _ HOB.out HEB.out HLV.out HRB.out S3.out (by omega) hbl)
    refine HBD.out.mono ?_;rintro e w4 ⟨rfl,hs4⟩;have S4:=hid hs4;clear hs4 HBD hbl c12;go_wp2_with fail;refine(aC V _ _ _ S4.out ?_).mono ?_
    ·have h1:=HTL.out;have h2:=HPL.out;have h3:=congrArg List.length HPX.out;have h4:Tm.dD.length=4:=rfl;simp only[aI,aT,aH,Z7,Z6,Y3,ByteArray.size_append,aq,aN,List.size_toArray];omega
    rintro e w5 ⟨⟨rn5,rfl⟩,hs5⟩;have S5:=hid hs5;clear hs5;go_wp2_with fail;go_roundw
    case rel=>exact⟨i+1,_,by go_num,by omega,hid (by rw[HNX.out,← HT.out,HP.out,HPX.out];simp[Tm.prI,Tm.dD,aI,aT,aH]),S5⟩
    case measure=>simp[intOf];omega
  ·obtain rfl:i=n:=by omega
   have q1:decide ((i:Int) < (i:Int))=false:=by simp
   have q2:decide (i < i)=false:=by simp
   have hdr:Tm.Its.drop i l= .nil:=by rw[HN.out];exact Tm.df l
   have HFT:=hid (show T=full by rw[← HT.out,hdr];simp[Tm.prI]);clear hdr;go_wp2_with fail
   go_end0
   rw[← HFT.out];exact⟨rfl,HS.out⟩
theorem ti:∀(n:Nat) (l:Tm.Its),Tm.Its.sz l < n→Tm.bG l→uK l
 |0,l,h,_=>by omega
 |n+1,l,h,hf=>zF l hf fun b hb hlt=>ti n b (by omega) hb
theorem Db(l:Tm.Its)(hf:Tm.bG l):uK l:=ti (Tm.Its.sz l+1) l (Nat.lt_succ_self _) hf
end
end Go.Proofs.YtlomecfhobehnaaGreatDoor
