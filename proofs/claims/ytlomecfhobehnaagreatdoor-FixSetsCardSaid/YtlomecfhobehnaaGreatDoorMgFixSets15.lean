import Derived.Test.YtlomecfhobehnaaGreatDoorMgFixSets14
set_option linter.unusedVariables false
set_option linter.unusedSimpArgs false
set_option maxRecDepth 100000
set_option maxHeartbeats 4000000
namespace Go.Proofs.YtlomecfhobehnaaGreatDoor
open Lib (hid)
section
open Go.RowKit
open Rd
theorem Dk:(Tryz.prog.info? 70).map (fun i=>(i.zero,i.size,i.bytes))=some (some (.agg #[.int .i64 0,.int .i64 0,.string ByteArray.empty,.string ByteArray.empty,.int .i64 0,.int .i64 0,.bool false,.bool false,.pointer none,.int .i64 0,.string ByteArray.empty,.string ByteArray.empty,.slice none 0 0]),13,144):=by kernel_rfl
theorem Dl(rb E d:Nat)(T:List Rd.Tok)(hd:d≤8)(hT:fD T)(hB:∀T',T'.length < T.length→fD T'→mP rb E (d+1) T'):Dj rb E d T:=by
 intro w he hr
 by_cases h1:Tm.ak T=Tm.dz
 ·cases T with
  |nil=>exact absurd h1 (by decide)
  |cons t T=>exact Bl w rb E d t T he hr hT h1 hd hB
 ·by_cases h2:Tm.ak T=Tm.cC
  ·cases T with
   |nil=>exact absurd h2 (by decide)
   |cons t T=>exact xY w rb E d t T he hr hT h2
  ·cases h3:Tm.kindOf (Tm.ak T)with
   |some v=>
    cases T with
    |nil=>exact absurd h3 (by rw[show Tm.kindOf (Tm.ak [])=none by decide];simp)
    |cons t T=>exact u6 w rb E d t T he hr hT (by rw[show Tm.kindOf t.1=some v from h3];rfl)
   |none=>
    cases h4:Tm.aN (Tm.ak T)with
    |true=>
     cases T with
     |nil=>exact absurd h4 (by decide)
     |cons t T=>exact u4 w rb E d t T he hr hT h3 h4
    |false=>exact Bj w rb E d T he hr hT h1 h3 h2 h4
def u7(w0:World)(rb E d:Nat)(T:List Rd.Tok)(e:Ending)(w':World):Prop:=
 (∃I R,∃(k0 k1 k4 k5 k9:Nat) (s2 s3 s10 s11:ByteArray) (b6 b7:Bool) (p8 a12:Option Addr) (n12 c12:Nat),Tm.gX E d T I R∧e= .returned (.agg #[.int .i64 (k0:Nat),.int .i64 (k1:Nat),.string s2,.string s3,.int .i64 (k4:Nat),.int .i64 (k5:Nat),.bool b6,.bool b7,.pointer p8,.int .i64 (k9:Nat),.string s10,.string s11,.slice a12 n12 c12])∧
  Tm.Enc w' rb (fun b=>w0.heap.size≤b) I [.int .i64 (k0:Nat),.int .i64 (k1:Nat),.string s2,.string s3,.int .i64 (k4:Nat),.int .i64 (k5:Nat),.bool b6,.bool b7,.pointer p8,.int .i64 (k9:Nat),.string s10,.string s11,.slice a12 n12 c12]∧Rdr w' rb R E∧w0.grownBy w' (some rb))∨((∀I R,¬Tm.gX E d T I R)∧Bad w0 rb e w')
theorem Bm{rb E d:Nat}{T:List Rd.Tok}(h:Dj rb E d T)(w:World)(he:Env w rb)(hr:Rdr w rb T E):
  Calls Tryz.prog 89 #[.pointer (some ⟨rb,0,none⟩),.int .i64 (d:Nat)] w (u7 w rb E d T):=by
 refine(h w he hr).mono ?_;rintro e w' (⟨I,R,cs,h1,rfl,h3,h4,h5⟩|h)
 ·obtain⟨k0,k1,k4,k5,k9,s2,s3,s10,s11,b6,b7,p8,a12,n12,c12,rfl⟩:=Tm.Enc.cells h1.one h3;exact .inl ⟨I,R,k0,k1,k4,k5,k9,s2,s3,s10,s11,b6,b7,p8,a12,n12,c12,h1,rfl,h3,h4,h5⟩
 ·exact .inr h
theorem Rd.Rdr.al{w w':World}{rb E:Nat}{R:List Rd.Tok}(h:Rdr w rb R E)(hh:∀b,b≤rb→w'.heap[b]? =w.heap[b]?):Rdr w' rb R E:=by
 obtain⟨a,c,h1,h2,h3⟩:=h;refine⟨a,c,h1.of_heap (hh rb (Z5 _)),h2,?_⟩;rcases h3 with h|⟨g,off,e1,e2,e3⟩
 ·exact .inl h
 ·refine .inr ⟨g,off,e1,e2,fun j hj=> ?_⟩;have hb:=hh g (Nat.le_of_lt e2);exact⟨(World.cell?_of_block (a:=⟨g,off+j * 2,none⟩) hb).trans (e3 j hj).1,(World.cell?_of_block (a:=⟨g,off+j * 2+1,none⟩) hb).trans (e3 j hj).2⟩
theorem u9{w w':World}{rb:Nat}(he:Env w rb)(hh:∀b,b < rb→w'.heap[b]? =w.heap[b]?):Env w' rb:=by
 have key:∀(p:Addr),p.block < rb→w'.cell? p=w.cell? p:=fun p hlt=>World.cell?_of_block (hh p.block hlt)
 refine⟨⟨he.lv.1,fun k hk=> ?_⟩,(key ⟨_,0,none⟩ he.eb).trans he.er,he.eb⟩;obtain⟨gk,ck,e1,e2,e3⟩:=he.lv.2 k hk;exact⟨gk,ck,(key ⟨_,k,none⟩ he.lv.1).trans e1,e2,fun j hj=>(key (gk.add j) (by rw[Addr.cM];exact e2)).trans (e3 j hj)⟩
structure mQ(w0 w:World)(rb E d:Nat)(T2 T:List Rd.Tok)(l:Tm.Its)(a:Option Addr)(cap:Nat)(vs:List Value):Prop where
 gr:w0.grownBy w (some rb)
 env:Env w rb
 lt:rb < w0.heap.size
 rd:Rdr w rb T E
 own:an w w0.heap.size 70 13 a (Tm.Its.len l) cap vs
 enc:Tm.Enc w rb (fun b=>w0.heap.size≤b∧∀x,a=some x→b≠x.block) l vs
 few:Tm.Its.len l≤16
 fwd:∀m R,Tm.Blk E d (Tm.Its.len l) T m R→Tm.Blk E d 0 T2 (l.app m) R
 bwd:∀L R,Tm.Blk E d 0 T2 L R→∃m,Tm.Blk E d (Tm.Its.len l) T m R
 suf:T <:+ T2
section
variable{w0 w w1 w2:World}{rb E d:Nat}{T2 T R:List Rd.Tok}{l I:Tm.Its}{a:Option Addr}{cap:Nat}{vs:List Value}
theorem mQ.start(he:Env w rb)(hr:Rdr w rb T E)(w0:World)(hg:w0.grownBy w (some rb))(hlt:rb < w0.heap.size):mQ w0 w rb E d T T .nil none 0 []:=
 ⟨hg,he,hlt,hr,an.nil _ _ _ _,rfl,by simp[Tm.Its.len],fun m R h=>h,fun L R h=>⟨L,h⟩,List.suffix_refl _⟩
theorem mQ.push(h:mQ w0 w rb E d T2 T l a cap vs)(hn:Tm.Its.len l < 16)(hp:Tm.gX E d T I R){cs:List Value}(hen:Tm.Enc w1 rb (fun b=>w.heap.size≤b) I cs)(hr:Rdr w1 rb R E)(hg:w.grownBy w1 (some rb))
  {a':Option Addr}{cap':Nat}(hown:an w2 w0.heap.size 70 13 a' (Tm.Its.len l+1) cap' (vs++cs))(hgr:w1.grownBy w2 (blk a))(hloc:∀x,a'=some x→a=some x∨w1.heap.size < x.block):
  mQ w0 w2 rb E d T2 R (l.app I) a' cap' (vs++cs):=by
 have hlen:Tm.Its.len (l.app I)=Tm.Its.len l+1:=by rw[Tm.zF,hp.one]
 have hoa:∀x,a=some x→w0.heap.size≤x.block∧x.block < w.heap.size:=fun x hx=>by have ho:=h.own;subst hx;exact ho.lt
 have hkeep:∀b,b < w1.heap.size→(∀x,a=some x→b≠x.block)→w2.heap[b]? =w1.heap[b]? :=fun b hb hne=>hgr.block b hb (fun e=>by
  cases ha:a with
  |none=>rw[ha]at e;simp[blk]at e
  |some x=>rw[ha]at e;simp only[blk,Option.map_some]at e;injection e with e;exact hne x ha e)
 have hlow:∀b,b < w0.heap.size→w2.heap[b]? =w1.heap[b]? :=fun b hb=>hkeep b (Nat.lt_of_lt_of_le hb (Nat.le_trans h.gr.size hg.size)) (fun x hx=>by have:=hoa x hx;omega)
 have hlt:=h.lt;have hs1:w.heap.size≤w1.heap.size:=hg.size;have hs2:w1.heap.size≤w2.heap.size:=hgr.size;have hx1:Tm.Enc w1 rb (fun b=>(w0.heap.size≤b∧∀x,a=some x→b≠x.block)∧b < w1.heap.size) l vs:=Tm.Enc.lt l vs (Tm.Enc.grown hg l vs h.enc);have ht:∀x,a=some x→∀xs,ad w1 x.block 0 202 xs→False:=fun x hx xs hrow=>by
  have ho:=(h.own.grown hg (fun y hy e=>by injection e with e;have:=hoa y hy;omega));subst hx;exact absurd (ho.row.2.2.2.2.ty hrow) (by decide)
 have hkx:jj w1 w2 rb:=fun g xs _ hrow=>hkeep g hrow.lt (fun x hx e=>ht x hx xs (e▸hrow))
 refine⟨?_,u9 (h.env.grown hg h.rd.lt) (fun b hb=>hlow b (by omega)),hlt,hr.al (fun b hb=>hlow b (by omega)),by rw[hlen];exact hown,?_,by rw[hlen];omega,?_,?_,?_⟩
 ·have h1:=ah h.gr hg;exact⟨hgr.os.trans h1.os,hgr.tape.trans h1.tape,hgr.output.trans h1.output,by have:=h1.size;omega,fun b hb hne=>(hlow b hb).trans (h1.block b hb hne)⟩
 ·refine Tm.Enc.app ?_ l vs ?_
  ·refine Tm.Enc.mono (fun b hb=> ?_) I cs (Tm.Enc.al hkx (ok:=fun b=>w.heap.size≤b∧b < w1.heap.size) (fun b hb=>hkeep b hb.2 (fun x hx=>by have:=(hoa x hx).2;omega)) I cs (Tm.Enc.lt I cs hen));refine⟨by have:=h.gr.size;omega,fun x hx=> ?_⟩;rcases hloc x hx with h2|h2
   ·have:=(hoa x h2).2;omega
   ·omega
  ·refine Tm.Enc.mono (fun b hb=> ?_) l vs (Tm.Enc.al hkx (fun b hb=>hkeep b hb.2 hb.1.2) l vs hx1);refine⟨hb.1.1,fun x hx=> ?_⟩;rcases hloc x hx with h2|h2
   ·exact hb.1.2 x h2
   ·have:=hb.2;omega
 ·intro m R' hm;rw[Tm.dF];refine h.fwd _ _ (Tm.Dd hn hp ?_);rw[hlen]at hm;exact hm
 ·intro L R' hL;obtain⟨m,hm⟩:=h.bwd L R' hL;rcases Tm.mJ hm with⟨h1,_⟩|⟨h1,h2,I',R1,l',h3,h4,h5⟩
  ·cases hp with
   |hd hh=>exact absurd h1 hh.no.1
   |when hw _ _=>exact absurd (hw.symm.trans h1) (by decide)
  ·obtain⟨rfl,rfl⟩:=hp.det h3;rw[hlen];exact⟨l',h4⟩
 ·exact hp.suf.1.trans h.suf
theorem mQ.shut{t:Rd.Tok}(h:mQ w0 w rb E d T2 (t::R) l a cap vs)(ht:t.1=[125])(hr:Rdr w1 rb R E)(hg:w.grownBy w1 (some rb)):
  Tm.Blk E d 0 T2 l R∧an w1 w0.heap.size 70 13 a (Tm.Its.len l) cap vs∧Tm.Enc w1 rb (fun b=>w0.heap.size≤b) l vs∧w0.grownBy w1 (some rb):=by
 refine⟨?_,h.own.grown hg (fun y hy e=>by injection e with e;have ho:=h.own;subst hy;have:=ho.lt.1;have:=h.lt;omega),Tm.Enc.mono (fun b hb=>hb.1) l vs (Tm.Enc.grown hg l vs h.enc),ah h.gr hg⟩;have:=h.fwd .nil R (.fin ht);rwa[Tm.eT]at this
theorem mQ.full(h:mQ w0 w rb E d T2 T l a cap vs)(hn:Tm.Its.len l=16)(ht:Tm.ak T≠[125]):∀L R,¬Tm.Blk E d 0 T2 L R:=by
 intro L R hL;obtain⟨m,hm⟩:=h.bwd L R hL;rcases Tm.mJ hm with⟨h1,_⟩|⟨_,h2,_⟩
 ·exact ht h1
 ·omega
theorem mQ.stuck(h:mQ w0 w rb E d T2 T l a cap vs)(ht:Tm.ak T≠[125])(hno:∀I R,¬Tm.gX E d T I R):∀L R,¬Tm.Blk E d 0 T2 L R:=by
 intro L R hL;obtain⟨m,hm⟩:=h.bwd L R hL;rcases Tm.mJ hm with⟨h1,_⟩|⟨_,_,I,R1,_,h3,_⟩
 ·exact ht h1
 ·exact hno I R1 h3
end
theorem Bo{n:Nat}(h:n≤16):n+1≤maxLen∧(n+1) * 144≤140737488355328:=by
 refine⟨?_,by omega⟩;show n+1≤9223372036854775807;omega
theorem xZ(rb E d:Nat)(t:Rd.Tok)(T:List Rd.Tok)(ht:t.1=[123])(hd:d≤8)(hT:fD (t::T))(hI:∀T',T'.length < (t::T).length→fD T'→Dj rb E d T'):mP rb E d (t::T):=by
 intro w he hr;have hTX:=bG rb (t::T) E w hr;rw[show ak (t::T)=t.1 from rfl,ht]at hTX;have HTX:=hid hTX;have hM:=oR rb t T E w hr (by rw[ht];decide);rw[ht]at hM;have HM:=hid hM;have d8:decide ((8:Int) < (d:Int))=false:=Y9 (by omega);have d8n:decide (8 < d)=false:=Y9 (by omega);have HI:=hid hI;have HTO:=hid (show fD T from hT.suf (List.suffix_cons _ _));have HHT:=hid ht;have HE:=hid he;have HL:=hid hr.lt;have HDD:=hid hd;clear hTX hM hI hT ht he hr hd;have hF:=fun V en at_=>dw rb en at_ V
 unfold aC at hF;have HF:=hid hF;clear hF;go_enter Tryz.func55,Tryz.ntmps55;go_wp2_with fail;refine HTX.out.mono ?_;rintro e w1 ⟨rfl,rfl⟩;go_wp2_with fail;refine HM.out.mono ?_;rintro e w2 ⟨rfl,hr2,hg2⟩;have HS2:=hid (mQ.start (d:=d) (HE.out.grown hg2 HL.out) hr2 w1 hg2 HL.out);clear hr2 hg2;go_wp2_with fail;go_loopw [5] (fun v5 wr=>∃(l:Tm.Its) (a:Option Addr) (cap:Nat) (T0:List Rd.Tok) (vs:List Value),v5= .slice a (Tm.Its.len l) cap∧Hid (mQ w1 wr rb E d T T0 l a cap vs)) (fun _ wr=>Rd.leftOf wr rb)
 case atStart=>exact⟨.nil,none,0,T,[],rfl,HS2⟩
 case round=>
  obtain⟨l,a,cap,T0,vs,rfl,HS⟩:=hrel;clear HS2 HM HTX;have HT0:=hid (HTO.out.suf HS.out.suf);go_wp2_with fail;refine(lM wr rb E T0 [125] (by simp) HS.out.rd).mono ?_;rintro e w3 (⟨u,R,rfl,hu,rfl,hr3,hg3⟩|⟨hu,rfl,rfl⟩)
  ·obtain⟨e1,e2,e3,e4⟩:=HS.out.shut hu hr3 hg3;have H1:=hid e1;have H2:=hid e2;have H3:=hid e3;have H4:=hid e4;have H5:=hid hr3;clear e1 e2 e3 e4 hr3 hg3 hu;go_wp2_with fail;go_ret;exact .inl ⟨l,R,a,cap,vs,⟨t,T,rfl,HHT.out,HDD.out,H1.out⟩,rfl,H2.out,H3.out,H5.out,H4.out⟩
  ·have HU:=hid hu;have hlen16:=HS.out.few;clear hu;generalize hn:Tm.Its.len l=n at *
   have HN:=hid hn;clear hn
   by_cases h16:n=16
   ·have q1:((n:Int)==16)=true:=by rw[beq_iff_eq];omega
    have q2:(n==16)=true:=by rw[beq_iff_eq];exact h16
    have H16:=hid h16;have HA:=hid (bS rb T0 E _ HS.out.rd);obtain⟨at_,hat⟩:∃a,a=Ex.dP E T0:=⟨_,rfl⟩;rw[← hat]at HA;clear h16 hlen16 hat;go_wp2_with fail;refine HA.out.mono ?_;rintro e w4 ⟨rfl,rfl⟩;go_wp2_with fail;refine(HF.out _ _ _).mono ?_;rintro e w5 ⟨rfl,g1,g2⟩;go_wp2_with fail;refine⟨rfl,.inr ⟨?_,_,4,at_,rfl,g1,HS.out.gr.size,ah HS.out.gr (ar g2 _)⟩⟩;rintro L R0 ⟨b,T2,e1,_,_,e4⟩;cases e1;exact HS.out.full (HN.out.trans H16.out) HU.out L R0 e4
   ·have q1:((n:Int)==16)=false:=by rw[Z8];omega
    have q2:(n==16)=false:=by rw[Z8];exact h16
    obtain⟨hs1,hs2⟩:=Bo (show n≤16 by omega);have H16:=hid (show Tm.Its.len l < 16 by rw[HN.out];omega);clear h16 hlen16;go_wp2_with fail;have HIT:=hid (Bm (HI.out T0 (by have:=HS.out.suf.length_le;simp;omega) HT0.out) _ HS.out.env HS.out.rd);unfold u7 Bad aC at HIT;refine HIT.out.mono ?_;rintro e w4 (⟨I,R,k0,k1,k4,k5,k9,s2,s3,s10,s11,b6,b7,p8,a12,n12,c12,hp,rfl,hen,hr4,hg4⟩|⟨hno,g,en,p,rfl,g1,g2,g3⟩)
    ·have HP:=hid hp;have HEN:=hid hen;have HR4:=hid hr4;have HG4:=hid hg4;have hown4:=HS.out.own.grown hg4 (fun y hy e=>by injection e with e;have ho:=HS.out.own;subst hy;have:=ho.lt.1;have:=HS.out.lt;omega);rw[HN.out]at hown4;have hbs:w1.heap.size≤w4.heap.size:=Nat.le_trans HS.out.gr.size hg4.size;have HO4:=hid hown4;clear hp hen hr4 hg4 hown4 HIT;go_wp2_with (with_reducible refine bP w4 rfl _ _ 63 rfl w1.heap.size 70 (.agg #[.int .i64 0,.int .i64 0,.string ByteArray.empty,.string ByteArray.empty,.int .i64 0,.int .i64 0,.bool false,.bool false,.pointer none,.int .i64 0,.string ByteArray.empty,.string ByteArray.empty,.slice none 0 0]) 13 144 Tryz.underlying63 Dk rfl (by decide) a n cap vs rfl HO4.out [.int .i64 (k0:Nat),.int .i64 (k1:Nat),.string s2,.string s3,.int .i64 (k4:Nat),.int .i64 (k5:Nat),.bool b6,.bool b7,.pointer p8,.int .i64 (k9:Nat),.string s10,.string s11,.slice a12 n12 c12] rfl (by simp[Value.oneCell']) rfl hs1 hs2 hbs ?_;intro a' cap' w5 hown5 hgrow5 hloc5 hsz5 hex5);have HS5:=hid (HS.out.push H16.out HP.out HEN.out HR4.out HG4.out (by rw[HN.out];exact hown5) hgrow5 hloc5);have hml:Rd.leftOf w5 rb < Rd.leftOf w3 rb:=by
      rw[HS5.out.rd.left,HS.out.rd.left];exact HP.out.suf.2
     have HML:=hid hml;have hl5:Tm.Its.len (l.app I)=n+1:=by rw[Tm.zF,HP.out.one,HN.out]
     clear hown5 hgrow5 hloc5 hsz5 hex5 hml;go_wp2_with fail;go_roundw
     case rel=>exact⟨l.app I,a',cap',R,_,by rw[hl5],HS5⟩
     case measure=>exact HML.out
    ·go_wp2_with fail;refine⟨rfl,.inr ⟨?_,g,en,p,rfl,g1,Nat.le_trans HS.out.gr.size g2,ah HS.out.gr g3⟩⟩;rintro L R0 ⟨b,T2,e1,_,_,e4⟩;cases e1;exact HS.out.stuck HU.out hno L R0 e4
theorem pD(rb E d:Nat)(T:List Rd.Tok)(ht:Tm.ak T≠[123]):mP rb E d T:=by
 intro w he hr;have hto:ak T=Tm.ak T:=by cases T <;> rfl
 have hTX:=bG rb T E w hr;rw[hto]at hTX;have HTX:=hid hTX;have hM:=dB w rb E T [123] (by simp) hr;unfold Bad aC at hM;have HM:=hid hM;have HHT:=hid ht;have q:(Tm.ak T==[123])=false:=by rw[Z8];exact ht
 clear hTX hM ht he hr hto;generalize hs:Tm.ak T=s at *
 have HSS:=hid hs;clear hs;go_enter Tryz.func55,Tryz.ntmps55;go_wp2_with fail;refine HTX.out.mono ?_;rintro e w1 ⟨rfl,rfl⟩;go_wp2_with fail;refine HM.out.mono ?_;rintro e w2 (⟨t,R,rfl,h2,_⟩|⟨_,g,en,p,rfl,g1,g2,g3⟩)
 ·exact absurd (HSS.out.symm.trans h2) HHT.out
 ·go_wp2_with fail;refine⟨rfl,.inr ⟨?_,g,en,p,rfl,g1,g2,g3⟩⟩;rintro L R0 ⟨b,T2,rfl,e2,_,e4⟩;exact HHT.out (HSS.out.symm.trans e2)
theorem yc(rb E d:Nat)(t:Rd.Tok)(T:List Rd.Tok)(ht:t.1=[123])(hd:8 < d)(hd2:d≤1000):mP rb E d (t::T):=by
 intro w he hr;have hTX:=bG rb (t::T) E w hr;rw[show ak (t::T)=t.1 from rfl,ht]at hTX;have HTX:=hid hTX;have HA:=hid (bS rb (t::T) E w hr);rw[show Ex.dP E (t::T)=t.2 from rfl]at HA;have d8:decide ((8:Int) < (d:Int))=true:=Z9 (by omega);have d8n:decide (8 < d)=true:=Z9 hd;have HDD:=hid hd;have hF:=dw rb 4 t.2 w;unfold aC at hF;have HF:=hid hF;clear hTX ht he hr hd hd2 hF;go_enter Tryz.func55,Tryz.ntmps55;go_wp2_with fail;refine HTX.out.mono ?_;rintro e w1 ⟨rfl,rfl⟩;go_wp2_with fail;refine HA.out.mono ?_;rintro e w1 ⟨rfl,rfl⟩;go_wp2_with fail;refine HF.out.mono ?_;rintro e w5 ⟨rfl,g1,g2⟩;go_wp2_with fail;refine⟨rfl,.inr ⟨?_,_,4,t.2,rfl,g1,Z5 _,ar g2 _⟩⟩;rintro L R0 ⟨b,T2,e1,_,e3,_⟩;exact absurd e3 (by have:=HDD.out;omega)
theorem rL(rb E:Nat):∀(n:Nat) (T:List Rd.Tok),T.length≤n→fD T→∀d,d≤9→mP rb E d T
 |0,T,hn,hT,d,hd=>by
  obtain rfl:T=[]:=List.eq_nil_of_length_eq_zero (by omega);exact pD rb E d [] (by decide)
 |n+1,T,hn,hT,d,hd=>by
  by_cases h1:Tm.ak T=[123]
  ·cases T with
   |nil=>exact absurd h1 (by decide)
   |cons t T=>
    by_cases h2:d≤8
    ·refine xZ rb E d t T h1 h2 hT fun T' hl hT'=> ?_
     simp only[Z6]at hn hl;exact Dl rb E d T' h2 hT' fun T'' hl2 hT''=>rL rb E n T'' (by omega) hT'' (d+1) (by omega)
    ·exact yc rb E d t T h1 (by omega) (by omega)
  ·exact pD rb E d T h1
theorem Bp(rb E:Nat)(T:List Rd.Tok)(hT:fD T)(w:World)(he:Env w rb)(hr:Rdr w rb T E):
  Calls Tryz.prog 55 #[.pointer (some ⟨rb,0,none⟩),.int .i64 1] w (jk w rb E 1 T):=rL rb E T.length T (Z5 _) hT 1 (by omega) w he hr
theorem Dm:(Tryz.prog.info? 97).map (fun i=>(i.zero,i.size,i.bytes))=some (some (.agg #[.string ByteArray.empty,.int .i64 0,.slice none 0 0]),3,48):=by kernel_rfl
def vc(w w':World)(rb:Nat):Prop:=∀g xs,rb < g→ad w g 0 70 xs→w'.heap[g]? =w.heap[g]?
namespace Tm
theorem Enc.rM{w w':World}{rb:Nat}{ok:Nat→Prop}(hk:jj w w' rb)(hi:vc w w' rb):∀(l:Its) (vs:List Value),Enc w rb ok l vs→Enc w' rb ok l vs
 | .nil,vs,e=>e
 | .cons a l,vs,e=>by
  obtain⟨cv,us,h1,h2,h3⟩:=e;exact⟨cv,us,h1.al hk,h2,Enc.rM hk hi l us h3⟩
 | .when a c b l,vs,e=>by
  obtain⟨cb,ga,cap,bs,us,h1,h2,h3,h4,h5,h6⟩:=e;refine⟨cb,ga,cap,bs,us,IsX.al hk c cb h1,h2.al fun x hx=> ?_,h3,Enc.rM hk hi b bs h4,h5,Enc.rM hk hi l us h6⟩;subst hx;exact hi _ _ (by have:=h2.lt.1;omega) h2.row.2.2.2.2
theorem pj.low{w:World}{rb rb':Nat}(h:rb'≤rb){c:Option Ex.X}{v:Value}(hc:pj w rb c v):pj w rb' c v:=by
 cases c with
 |none=>exact hc
 |some x=>
  obtain⟨b,h1,h2⟩:=hc;exact⟨b,h1,IsX.mono h x b h2⟩
theorem Enc.low{w:World}{rb rb':Nat}{ok:Nat→Prop}(hb:rb'≤rb):∀(l:Its) (vs:List Value),Enc w rb ok l vs→Enc w rb' ok l vs
 | .nil,vs,e=>e
 | .cons a l,vs,e=>by
  obtain⟨cv,us,h1,h2,h3⟩:=e;exact⟨cv,us,h1.low hb,h2,Enc.low hb l us h3⟩
 | .when a c b l,vs,e=>by
  obtain⟨cb,ga,cap,bs,us,h1,h2,h3,h4,h5,h6⟩:=e;exact⟨cb,ga,cap,bs,us,IsX.mono hb c cb h1,h2.mono (by omega),h3,Enc.low hb b bs h4,h5,Enc.low hb l us h6⟩
def bp(w:World)(rb:Nat)(l:Its)(bs:List Value):Prop:=Enc w rb (fun _=>True) l bs
theorem bp.of{w:World}{rb:Nat}{ok:Nat→Prop}{l:Its}{vs:List Value}(h:Enc w rb ok l vs):bp w rb l vs:=Enc.mono (fun _ _=>trivial) l vs h
def cF(w:World)(rb:Nat):List Ty→List Value→Prop
 |[],vs=>vs=[]
 |t::r,vs=>∃ga cap bs us,an w (rb+1) 70 13 ga t.items.len cap bs∧bp w rb t.items bs∧vs=[.string (aa t.name),.int .i64 (t.at_:Nat),.slice ga t.items.len cap]++us∧cF w rb r us
theorem cF.al{w w':World}{rb:Nat}(hk:jj w w' rb)(hi:vc w w' rb):∀(l:List Ty) (vs:List Value),cF w rb l vs→cF w' rb l vs
 |[],vs,e=>e
 |t::r,vs,e=>by
  obtain⟨ga,cap,bs,us,h1,h2,h3,h4⟩:=e;refine⟨ga,cap,bs,us,h1.al fun x hx=> ?_,Enc.rM hk hi _ _ h2,h3,cF.al hk hi r us h4⟩;subst hx;exact hi _ _ (by have:=h1.lt.1;omega) h1.row.2.2.2.2
theorem cF.low{w:World}{rb rb':Nat}(hb:rb'≤rb):∀(l:List Ty) (vs:List Value),cF w rb l vs→cF w rb' l vs
 |[],vs,e=>e
 |t::r,vs,e=>by
  obtain⟨ga,cap,bs,us,h1,h2,h3,h4⟩:=e;exact⟨ga,cap,bs,us,h1.mono (by omega),Enc.low hb _ _ h2,h3,cF.low hb r us h4⟩
theorem cF.app{w:World}{rb:Nat}{m:List Ty}{us:List Value}(hm:cF w rb m us):∀(l:List Ty) (vs:List Value),cF w rb l vs→cF w rb (l++m) (vs++us)
 |[],vs,e=>by rw[show vs=[]from e];exact hm
 |t::r,vs,e=>by
  obtain⟨ga,cap,bs,ys,h1,h2,rfl,h4⟩:=e;exact⟨ga,cap,bs,ys++us,h1,h2,by rw[List.append_assoc],cF.app hm r ys h4⟩
theorem vd{w w':World}{rb:Nat}(hg:w.grownBy w' (some rb)):jj w w' rb:=fun g xs h hr=>hg.block g hr.lt (fun e=>by injection e with e;omega)
theorem ve{w w':World}{rb:Nat}(hg:w.grownBy w' (some rb)):vc w w' rb:=fun g xs h hr=>hg.block g hr.lt (fun e=>by injection e with e;omega)
theorem cF.grown{w w':World}{rb:Nat}(hg:w.grownBy w' (some rb)){l:List Ty}{vs:List Value}(h:cF w rb l vs):cF w' rb l vs:=cF.al (vd hg) (ve hg) l vs h
theorem rN{E n:Nat}{T:List Rd.Tok}{L:List Ty}(h:Tys E n T L):(T=[]∧L=[])∨(n < 8∧∃t m U R ty l,T=t::m::U∧t.1=cN∧aN m.1=true∧mH E 1 U ty R∧Tys E (n+1) R l∧L=⟨m.1,m.2,ty⟩::l):=by
 cases h with
 |fin=>exact .inl ⟨rfl,rfl⟩
 |one h1 h2 h3 h4 h5 h6=>exact .inr ⟨h1,_,_,_,_,_,_,rfl,h2,h3,⟨_,_,rfl,h4,by omega,h5⟩,h6,rfl⟩
theorem E6{E n:Nat}{t m:Rd.Tok}{U R:List Rd.Tok}{ty:Its}{l:List Ty}(h1:n < 8)(h2:t.1=cN)(h3:aN m.1=true)(h4:mH E 1 U ty R)(h5:Tys E (n+1) R l):Tys E n (t::m::U) (⟨m.1,m.2,ty⟩::l):=by
 obtain⟨b,T2,rfl,g1,g2,g3⟩:=h4;exact .one h1 h2 h3 g1 g3 h5
end Tm
structure pE(w0 w:World)(rb E:Nat)(T2 T:List Rd.Tok)(ls:List Tm.Ty)(a:Option Addr)(cap:Nat)(vs:List Value):Prop where
 gr:w0.grownBy w (some rb)
 env:Env w rb
 lt:rb < w0.heap.size
 rd:Rdr w rb T E
 own:an w w0.heap.size 97 3 a ls.length cap vs
 enc:Tm.cF w rb ls vs
 few:ls.length≤8
 fwd:∀m,Tm.Tys E ls.length T m→Tm.Tys E 0 T2 (ls++m)
 bwd:∀L,Tm.Tys E 0 T2 L→∃m,Tm.Tys E ls.length T m
 suf:T <:+ T2
structure mR(w0 w:World)(rb tb E:Nat)(R:List Rd.Tok)(cs:List Value):Prop where
 gr:w0.grownBy w (some rb)
 env:Env w rb
 lo:w0.heap.size≤tb
 lt:rb < w0.heap.size
 rd:Rdr w rb R E
 row:ad w tb 0 97 cs
section
variable{w0 w w' w1 w2:World}{rb tb E:Nat}{T2 T R R':List Rd.Tok}{ls:List Tm.Ty}{a:Option Addr}{cap:Nat}{vs cs:List Value}
theorem mR.move(h:mR w0 w rb tb E R cs)(hr:Rdr w' rb R' E)(hg:w.grownBy w' (some rb)):mR w0 w' rb tb E R' cs:=
 ⟨ah h.gr hg,h.env.grown hg h.rd.lt,h.lo,h.lt,hr,h.row.of_heap (hg.block tb h.row.lt (fun e=>by injection e with e;have:=h.lt;have:=h.lo;omega))⟩
theorem mR.set(h:mR w0 w rb tb E R cs)(k:Nat)(hk:k < cs.length)(v:Value):mR w0 (w.setCell ⟨tb,k,none⟩ v) rb tb E R (cs.set k v):=
 ⟨cD h.gr h.lo _,zN h.env (by have:=h.lt;have:=h.lo;omega) v,h.lo,h.lt,h.rd.fQ (by have:=h.lt;have:=h.lo;omega) _,h.row.aw k hk v⟩
theorem mR.cell(h:mR w0 w rb tb E R cs)(k:Nat)(hk:k < cs.length):w.cell? ⟨tb,k,none⟩=some cs[k]∧w.frozen? ⟨tb,k,none⟩=false:=⟨h.row.cell0 k hk,h.row.frozen0 k hk⟩
theorem mR.start(he:Env w rb)(hr:Rdr w rb R E)(a:Nat):mR w (w.alloc (.cells #[.string {data:= #[]},.int .i64 (a:Nat),.slice none 0 0] 97)) rb w.heap.size E R [.string {data:= #[]},.int .i64 (a:Nat),.slice none 0 0]:=by
 have h1:=(Y4 w.heap.size w).alloc (Z5 _) (.cells #[.string {data:= #[]},.int .i64 (a:Nat),.slice none 0 0] 97);exact⟨ar h1 _,he.grown (ar h1 _) hr.lt,Z5 _,hr.lt,hr.below h1,ad.new w 97 #[.string {data:= #[]},.int .i64 (a:Nat),.slice none 0 0]⟩
theorem pE.start(he:Env w rb)(hr:Rdr w rb T E):pE w w rb E T T [] none 0 []:=
 ⟨kG _ _,he,hr.lt,hr,an.nil _ _ _ _,rfl,by simp,fun m h=>h,fun L h=>⟨L,h⟩,List.suffix_refl _⟩
theorem mR.keeps(h:mR w0 w rb tb E R cs)(k:Nat)(v:Value):jj w (w.setCell ⟨tb,k,none⟩ v) rb∧vc w (w.setCell ⟨tb,k,none⟩ v) rb:=by
 refine⟨fun g xs _ hg=>Below.heap_setCell w ⟨tb,k,none⟩ v g ?_,fun g xs _ hg=>Below.heap_setCell w ⟨tb,k,none⟩ v g ?_⟩
 ·rintro rfl;exact absurd (h.row.ty hg) (by decide)
 ·rintro rfl;exact absurd (h.row.ty hg) (by decide)
theorem pE.push{t m:Rd.Tok}{U:List Rd.Tok}{ty:Tm.Its}{ga:Option Addr}{cb:Nat}{bs:List Value}(h:pE w0 w rb E T2 (t::m::U) ls a cap vs)(hn:ls.length < 8)(ht:t.1=Tm.cN)(hm:Tm.aN m.1=true)(hp:Tm.mH E 1 U ty R)
  (hr:Rdr w1 rb R E)(hg:w.grownBy w1 (some rb))(ho:an w1 (rb+1) 70 13 ga (Tm.Its.len ty) cb bs)(hen:Tm.bp w1 rb ty bs)
  {a':Option Addr}{cap':Nat}(hown:an w2 w0.heap.size 97 3 a' (ls.length+1) cap' (vs++[.string (aa m.1),.int .i64 (m.2:Nat),.slice ga (Tm.Its.len ty) cb]))(hgr:w1.grownBy w2 (blk a)):
  pE w0 w2 rb E T2 R (ls++[⟨m.1,m.2,ty⟩]) a' cap' (vs++[.string (aa m.1),.int .i64 (m.2:Nat),.slice ga (Tm.Its.len ty) cb]):=by
 have hoa:∀x,a=some x→w0.heap.size≤x.block∧x.block < w.heap.size:=fun x hx=>by have ho:=h.own;subst hx;exact ho.lt
 have hkeep:∀b,b < w1.heap.size→(∀x,a=some x→b≠x.block)→w2.heap[b]? =w1.heap[b]? :=fun b hb hne=>hgr.block b hb (fun e=>by
  cases ha:a with
  |none=>rw[ha]at e;simp[blk]at e
  |some x=>rw[ha]at e;simp only[blk,Option.map_some]at e;injection e with e;exact hne x ha e)
 have hlt:=h.lt;have hs1:w.heap.size≤w1.heap.size:=hg.size;have hlow:∀b,b < w0.heap.size→w2.heap[b]? =w1.heap[b]? :=fun b hb=>hkeep b (Nat.lt_of_lt_of_le hb (Nat.le_trans h.gr.size hg.size)) (fun x hx=>by have:=hoa x hx;omega)
 have ht':∀x,a=some x→∀e,e≠97→∀xs,ad w1 x.block 0 e xs→False:=fun x hx e he xs hrow=>by
  have ho:=(h.own.grown hg (fun y hy e=>by injection e with e;have:=hoa y hy;omega));subst hx;exact he (ho.row.2.2.2.2.ty hrow).symm
 have hkx:jj w1 w2 rb:=fun g xs _ hrow=>hkeep g hrow.lt (fun x hx e=>ht' x hx _ (by decide) xs (e▸hrow))
 have hki:vc w1 w2 rb:=fun g xs _ hrow=>hkeep g hrow.lt (fun x hx e=>ht' x hx _ (by decide) xs (e▸hrow))
 have hs2:w1.heap.size≤w2.heap.size:=hgr.size;refine⟨?_,u9 (h.env.grown hg h.rd.lt) (fun b hb=>hlow b (by omega)),hlt,hr.al (fun b hb=>hlow b (by omega)),by rw[Z7];exact hown,?_,by rw[Z7];simp;omega,?_,?_,?_⟩
 ·have h1:=ah h.gr hg;exact⟨hgr.os.trans h1.os,hgr.tape.trans h1.tape,hgr.output.trans h1.output,by have:=h1.size;omega,fun b hb hne=>(hlow b hb).trans (h1.block b hb hne)⟩
 ·refine Tm.cF.app ?_ ls vs (Tm.cF.al hkx hki ls vs (Tm.cF.grown hg h.enc));refine⟨ga,cb,bs,[],ho.al fun x hx=> ?_,Tm.Enc.rM hkx hki _ _ hen,rfl,rfl⟩;subst hx;exact hki _ _ (by have:=ho.lt.1;omega) ho.row.2.2.2.2
 ·intro l hl;rw[Z7]at hl;rw[List.append_assoc];exact h.fwd _ (Tm.E6 hn ht hm hp hl)
 ·intro L hL;obtain⟨l,hl⟩:=h.bwd L hL;rcases Tm.rN hl with⟨h1,_⟩|⟨_,t',m',U',R',ty',l',h1,h2,h3,h4,h5,h6⟩
  ·cases h1
  ·cases h1;obtain⟨rfl,rfl⟩:=hp.det h4;rw[Z7];exact⟨l',h5⟩
 ·exact(hp.suf.1.trans ((List.suffix_cons _ _).trans (List.suffix_cons _ _))).trans h.suf
theorem pE.stuck(h:pE w0 w rb E T2 T ls a cap vs)(hne:T≠[])(hno:ls.length < 8→∀t m U R ty,T=t::m::U→t.1=Tm.cN→Tm.aN m.1=true→Tm.mH E 1 U ty R→False):∀L,¬Tm.Tys E 0 T2 L:=by
 intro L hL;obtain⟨l,hl⟩:=h.bwd L hL;rcases Tm.rN hl with⟨h1,_⟩|⟨h0,t,m,U,R,ty,l',h1,h2,h3,h4,_⟩
 ·exact hne h1
 ·exact hno h0 t m U R ty h1 h2 h3 h4
theorem pE.done(h:pE w0 w rb E T2 [] ls a cap vs):Tm.Tys E 0 T2 ls:=by
 have:=h.fwd [] .fin;rwa[List.append_nil]at this
end
end
end Go.Proofs.YtlomecfhobehnaaGreatDoor
