import Derived.Test.YtlomecfhobehnaaGreatDoorMgFixDrops10
set_option linter.all false
set_option maxRecDepth 100000
set_option maxHeartbeats 4000000
namespace Go.Proofs.YtlomecfhobehnaaGreatDoor
open Lib (hid)
section
open Go.RowKit
open Rd
theorem Fh:(Tryz.prog.info? 70).map (fun i=>(i.zero,i.size,i.bytes))=some (some (.agg #[.int .i64 0,.int .i64 0,.string ByteArray.empty,.string ByteArray.empty,.int .i64 0,.int .i64 0,.bool false,.bool false,.pointer none,.int .i64 0,.string ByteArray.empty,.string ByteArray.empty,.slice none 0 0]),13,144):=by kernel_rfl
theorem Fi(rb E d:Nat)(T:List Rd.Tok)(hd:d≤8)(hT:fK T)(hB:∀T',T'.length < T.length→fK T'→nM rb E (d+1) T'):Fg rb E d T:=by
 intro w he hr
 by_cases h1:Tm.al T=Tm.dD
 ·cases T with
  |nil=>exact absurd h1 (by decide)
  |cons t T=>exact CO w rb E d t T he hr hT h1 hd hB
 ·by_cases h2:Tm.al T=Tm.cD
  ·cases T with
   |nil=>exact absurd h2 (by decide)
   |cons t T=>exact zp w rb E d t T he hr hT h2
  ·cases h3:Tm.kindOf (Tm.al T)with
   |some v=>
    cases T with
    |nil=>exact absurd h3 (by rw[show Tm.kindOf (Tm.al [])=none by decide];simp)
    |cons t T=>exact wL w rb E d t T he hr hT (by rw[show Tm.kindOf t.1=some v from h3];rfl)
   |none=>
    cases h4:Tm.aP (Tm.al T)with
    |true=>
     cases T with
     |nil=>exact absurd h4 (by decide)
     |cons t T=>exact wK w rb E d t T he hr hT h3 h4
    |false=>exact CN w rb E d T he hr hT h1 h3 h2 h4
def wM(w0:World)(rb E d:Nat)(T:List Rd.Tok)(e:Ending)(w':World):Prop:=
 (∃I R,∃(k0 k1 k4 k5 k9:Nat) (s2 s3 s10 s11:ByteArray) (b6 b7:Bool) (p8 a12:Option Addr) (n12 c12:Nat),Tm.ir E d T I R∧e= .returned (.agg #[.int .i64 (k0:Nat),.int .i64 (k1:Nat),.string s2,.string s3,.int .i64 (k4:Nat),.int .i64 (k5:Nat),.bool b6,.bool b7,.pointer p8,.int .i64 (k9:Nat),.string s10,.string s11,.slice a12 n12 c12])∧
  Tm.Enc w' rb (fun b=>w0.heap.size≤b) I [.int .i64 (k0:Nat),.int .i64 (k1:Nat),.string s2,.string s3,.int .i64 (k4:Nat),.int .i64 (k5:Nat),.bool b6,.bool b7,.pointer p8,.int .i64 (k9:Nat),.string s10,.string s11,.slice a12 n12 c12]∧Rdr w' rb R E∧w0.grownBy w' (some rb))∨((∀I R,¬Tm.ir E d T I R)∧Bad w0 rb e w')
theorem CP{rb E d:Nat}{T:List Rd.Tok}(h:Fg rb E d T)(w:World)(he:Env w rb)(hr:Rdr w rb T E):
  Calls Tryz.prog 89 #[.pointer (some ⟨rb,0,none⟩),.int .i64 (d:Nat)] w (wM w rb E d T):=by
 refine(h w he hr).mono ?_;rintro e w' (⟨I,R,cs,h1,rfl,h3,h4,h5⟩|h)
 ·obtain⟨k0,k1,k4,k5,k9,s2,s3,s10,s11,b6,b7,p8,a12,n12,c12,rfl⟩:=Tm.Enc.cells h1.one h3;exact .inl ⟨I,R,k0,k1,k4,k5,k9,s2,s3,s10,s11,b6,b7,p8,a12,n12,c12,h1,rfl,h3,h4,h5⟩
 ·exact .inr h
theorem Rd.Rdr.an{w w':World}{rb E:Nat}{R:List Rd.Tok}(h:Rdr w rb R E)(hh:∀b,b≤rb→w'.heap[b]? =w.heap[b]?):Rdr w' rb R E:=by
 obtain⟨a,c,h1,h2,h3⟩:=h;refine⟨a,c,h1.of_heap (hh rb (Z5 _)),h2,?_⟩;rcases h3 with h|⟨g,off,e1,e2,e3⟩
 ·exact .inl h
 ·refine .inr ⟨g,off,e1,e2,fun j hj=> ?_⟩;have hb:=hh g (Nat.le_of_lt e2);exact⟨(World.cell?_of_block (a:=⟨g,off+j * 2,none⟩) hb).trans (e3 j hj).1,(World.cell?_of_block (a:=⟨g,off+j * 2+1,none⟩) hb).trans (e3 j hj).2⟩
theorem wN{w w':World}{rb:Nat}(he:Env w rb)(hh:∀b,b < rb→w'.heap[b]? =w.heap[b]?):Env w' rb:=by
 have key:∀(p:Addr),p.block < rb→w'.cell? p=w.cell? p:=fun p hlt=>World.cell?_of_block (hh p.block hlt)
 refine⟨⟨he.lv.1,fun k hk=> ?_⟩,(key ⟨_,0,none⟩ he.eb).trans he.er,he.eb⟩;obtain⟨gk,ck,e1,e2,e3⟩:=he.lv.2 k hk;exact⟨gk,ck,(key ⟨_,k,none⟩ he.lv.1).trans e1,e2,fun j hj=>(key (gk.add j) (by rw[Addr.cH];exact e2)).trans (e3 j hj)⟩
structure nN(w0 w:World)(rb E d:Nat)(T2 T:List Rd.Tok)(l:Tm.Its)(a:Option Addr)(cap:Nat)(vs:List Value):Prop where
 gr:w0.grownBy w (some rb)
 env:Env w rb
 lt:rb < w0.heap.size
 rd:Rdr w rb T E
 own:ak w w0.heap.size 70 13 a (Tm.Its.len l) cap vs
 enc:Tm.Enc w rb (fun b=>w0.heap.size≤b∧∀x,a=some x→b≠x.block) l vs
 few:Tm.Its.len l≤16
 fwd:∀m R,Tm.Blk E d (Tm.Its.len l) T m R→Tm.Blk E d 0 T2 (l.app m) R
 bwd:∀L R,Tm.Blk E d 0 T2 L R→∃m,Tm.Blk E d (Tm.Its.len l) T m R
 suf:T <:+ T2
section
variable{w0 w w1 w2:World}{rb E d:Nat}{T2 T R:List Rd.Tok}{l I:Tm.Its}{a:Option Addr}{cap:Nat}{vs:List Value}
theorem nN.start(he:Env w rb)(hr:Rdr w rb T E)(w0:World)(hg:w0.grownBy w (some rb))(hlt:rb < w0.heap.size):nN w0 w rb E d T T .nil none 0 []:=
 ⟨hg,he,hlt,hr,ak.nil _ _ _ _,rfl,by simp[Tm.Its.len],fun m R h=>h,fun L R h=>⟨L,h⟩,List.suffix_refl _⟩
theorem nN.push(h:nN w0 w rb E d T2 T l a cap vs)(hn:Tm.Its.len l < 16)(hp:Tm.ir E d T I R){cs:List Value}(hen:Tm.Enc w1 rb (fun b=>w.heap.size≤b) I cs)(hr:Rdr w1 rb R E)(hg:w.grownBy w1 (some rb))
  {a':Option Addr}{cap':Nat}(hown:ak w2 w0.heap.size 70 13 a' (Tm.Its.len l+1) cap' (vs++cs))(hgr:w1.grownBy w2 (blk a))(hloc:∀x,a'=some x→a=some x∨w1.heap.size < x.block):
  nN w0 w2 rb E d T2 R (l.app I) a' cap' (vs++cs):=by
 have hlen:Tm.Its.len (l.app I)=Tm.Its.len l+1:=by rw[Tm.AQ,hp.one]
 have hoa:∀x,a=some x→w0.heap.size≤x.block∧x.block < w.heap.size:=fun x hx=>by have ho:=h.own;subst hx;exact ho.lt
 have hkeep:∀b,b < w1.heap.size→(∀x,a=some x→b≠x.block)→w2.heap[b]? =w1.heap[b]? :=fun b hb hne=>hgr.block b hb (fun e=>by
  cases ha:a with
  |none=>rw[ha]at e;simp[blk]at e
  |some x=>rw[ha]at e;simp only[blk,Option.map_some]at e;injection e with e;exact hne x ha e)
 have hlow:∀b,b < w0.heap.size→w2.heap[b]? =w1.heap[b]? :=fun b hb=>hkeep b (Nat.lt_of_lt_of_le hb (Nat.le_trans h.gr.size hg.size)) (fun x hx=>by have:=hoa x hx;omega)
 have hlt:=h.lt;have hs1:w.heap.size≤w1.heap.size:=hg.size;have hs2:w1.heap.size≤w2.heap.size:=hgr.size;have hx1:Tm.Enc w1 rb (fun b=>(w0.heap.size≤b∧∀x,a=some x→b≠x.block)∧b < w1.heap.size) l vs:=Tm.Enc.lt l vs (Tm.Enc.grown hg l vs h.enc);have ht:∀x,a=some x→∀xs,ae w1 x.block 0 202 xs→False:=fun x hx xs hrow=>by
  have ho:=(h.own.grown hg (fun y hy e=>by injection e with e;have:=hoa y hy;omega));subst hx;exact absurd (ho.row.2.2.2.2.ty hrow) (by decide)
 have hkx:jy w1 w2 rb:=fun g xs _ hrow=>hkeep g hrow.lt (fun x hx e=>ht x hx xs (e▸hrow))
 refine⟨?_,wN (h.env.grown hg h.rd.lt) (fun b hb=>hlow b (by omega)),hlt,hr.an (fun b hb=>hlow b (by omega)),by rw[hlen];exact hown,?_,by rw[hlen];omega,?_,?_,?_⟩
 ·have h1:=ah h.gr hg;exact⟨hgr.os.trans h1.os,hgr.tape.trans h1.tape,hgr.output.trans h1.output,by have:=h1.size;omega,fun b hb hne=>(hlow b hb).trans (h1.block b hb hne)⟩
 ·refine Tm.Enc.app ?_ l vs ?_
  ·refine Tm.Enc.mono (fun b hb=> ?_) I cs (Tm.Enc.an hkx (ok:=fun b=>w.heap.size≤b∧b < w1.heap.size) (fun b hb=>hkeep b hb.2 (fun x hx=>by have:=(hoa x hx).2;omega)) I cs (Tm.Enc.lt I cs hen));refine⟨by have:=h.gr.size;omega,fun x hx=> ?_⟩;rcases hloc x hx with h2|h2
   ·have:=(hoa x h2).2;omega
   ·omega
  ·refine Tm.Enc.mono (fun b hb=> ?_) l vs (Tm.Enc.an hkx (fun b hb=>hkeep b hb.2 hb.1.2) l vs hx1);refine⟨hb.1.1,fun x hx=> ?_⟩;rcases hloc x hx with h2|h2
   ·exact hb.1.2 x h2
   ·have:=hb.2;omega
 ·intro m R' hm;rw[Tm.dM];refine h.fwd _ _ (Tm.EZ hn hp ?_);rw[hlen]at hm;exact hm
 ·intro L R' hL;obtain⟨m,hm⟩:=h.bwd L R' hL;rcases Tm.nH hm with⟨h1,_⟩|⟨h1,h2,I',R1,l',h3,h4,h5⟩
  ·cases hp with
   |hd hh=>exact absurd h1 hh.no.1
   |when hw _ _=>exact absurd (hw.symm.trans h1) (by decide)
  ·obtain⟨rfl,rfl⟩:=hp.det h3;rw[hlen];exact⟨l',h4⟩
 ·exact hp.suf.1.trans h.suf
theorem nN.shut{t:Rd.Tok}(h:nN w0 w rb E d T2 (t::R) l a cap vs)(ht:t.1=[125])(hr:Rdr w1 rb R E)(hg:w.grownBy w1 (some rb)):
  Tm.Blk E d 0 T2 l R∧ak w1 w0.heap.size 70 13 a (Tm.Its.len l) cap vs∧Tm.Enc w1 rb (fun b=>w0.heap.size≤b) l vs∧w0.grownBy w1 (some rb):=by
 refine⟨?_,h.own.grown hg (fun y hy e=>by injection e with e;have ho:=h.own;subst hy;have:=ho.lt.1;have:=h.lt;omega),Tm.Enc.mono (fun b hb=>hb.1) l vs (Tm.Enc.grown hg l vs h.enc),ah h.gr hg⟩;have:=h.fwd .nil R (.fin ht);rwa[Tm.fe]at this
theorem nN.full(h:nN w0 w rb E d T2 T l a cap vs)(hn:Tm.Its.len l=16)(ht:Tm.al T≠[125]):∀L R,¬Tm.Blk E d 0 T2 L R:=by
 intro L R hL;obtain⟨m,hm⟩:=h.bwd L R hL;rcases Tm.nH hm with⟨h1,_⟩|⟨_,h2,_⟩
 ·exact ht h1
 ·omega
theorem nN.stuck(h:nN w0 w rb E d T2 T l a cap vs)(ht:Tm.al T≠[125])(hno:∀I R,¬Tm.ir E d T I R):∀L R,¬Tm.Blk E d 0 T2 L R:=by
 intro L R hL;obtain⟨m,hm⟩:=h.bwd L R hL;rcases Tm.nH hm with⟨h1,_⟩|⟨_,_,I,R1,_,h3,_⟩
 ·exact ht h1
 ·exact hno I R1 h3
end
theorem CQ{n:Nat}(h:n≤16):n+1≤maxLen∧(n+1) * 144≤140737488355328:=by
 refine⟨?_,by omega⟩;show n+1≤9223372036854775807;omega
theorem zq(rb E d:Nat)(t:Rd.Tok)(T:List Rd.Tok)(ht:t.1=[123])(hd:d≤8)(hT:fK (t::T))(hI:∀T',T'.length < (t::T).length→fK T'→Fg rb E d T'):nM rb E d (t::T):=by
 intro w he hr;have hTX:=bJ rb (t::T) E w hr;rw[show al (t::T)=t.1 from rfl,ht]at hTX;have HTX:=hid hTX;have hM:=pL rb t T E w hr (by rw[ht];decide);rw[ht]at hM;have HM:=hid hM;have d8:decide ((8:Int) < (d:Int))=false:=Y9 (by omega);have d8n:decide (8 < d)=false:=Y9 (by omega);have HI:=hid hI;have HTO:=hid (show fK T from hT.suf (List.suffix_cons _ _));have HHT:=hid ht;have HE:=hid he;have HL:=hid hr.lt;have HDD:=hid hd;clear hTX hM hI hT ht he hr hd;have hF:=fun V en at_=>dC rb en at_ V
 unfold aD at hF;have HF:=hid hF;clear hF;go_enter Tryz.func55,Tryz.ntmps55;go_wp2_with fail;refine HTX.out.mono ?_;rintro e w1 ⟨rfl,rfl⟩;go_wp2_with fail;refine HM.out.mono ?_;rintro e w2 ⟨rfl,hr2,hg2⟩;have HS2:=hid (nN.start (d:=d) (HE.out.grown hg2 HL.out) hr2 w1 hg2 HL.out);clear hr2 hg2;go_wp2_with fail;go_loopw [5] (fun v5 wr=>∃(l:Tm.Its) (a:Option Addr) (cap:Nat) (T0:List Rd.Tok) (vs:List Value),v5= .slice a (Tm.Its.len l) cap∧Hid (nN w1 wr rb E d T T0 l a cap vs)) (fun _ wr=>Rd.leftOf wr rb)
 case atStart=>exact⟨.nil,none,0,T,[],rfl,HS2⟩
 case round=>
  obtain⟨l,a,cap,T0,vs,rfl,HS⟩:=hrel;clear HS2 HM HTX;have HT0:=hid (HTO.out.suf HS.out.suf);go_wp2_with fail;refine(mj wr rb E T0 [125] (by simp) HS.out.rd).mono ?_;rintro e w3 (⟨u,R,rfl,hu,rfl,hr3,hg3⟩|⟨hu,rfl,rfl⟩)
  ·obtain⟨e1,e2,e3,e4⟩:=HS.out.shut hu hr3 hg3;have H1:=hid e1;have H2:=hid e2;have H3:=hid e3;have H4:=hid e4;have H5:=hid hr3;clear e1 e2 e3 e4 hr3 hg3 hu;go_wp2_with fail;go_ret;exact .inl ⟨l,R,a,cap,vs,⟨t,T,rfl,HHT.out,HDD.out,H1.out⟩,rfl,H2.out,H3.out,H5.out,H4.out⟩
  ·have HU:=hid hu;have hlen16:=HS.out.few;clear hu;generalize hn:Tm.Its.len l=n at *
   have HN:=hid hn;clear hn
   by_cases h16:n=16
   ·have q1:((n:Int)==16)=true:=by rw[beq_iff_eq];omega
    have q2:(n==16)=true:=by rw[beq_iff_eq];exact h16
    have H16:=hid h16;have HA:=hid (bW rb T0 E _ HS.out.rd);obtain⟨at_,hat⟩:∃a,a=Ex.dY E T0:=⟨_,rfl⟩;rw[← hat]at HA;clear h16 hlen16 hat;go_wp2_with fail;refine HA.out.mono ?_;rintro e w4 ⟨rfl,rfl⟩;go_wp2_with fail;refine(HF.out _ _ _).mono ?_;rintro e w5 ⟨rfl,g1,g2⟩;go_wp2_with fail;refine⟨rfl,.inr ⟨?_,_,4,at_,rfl,g1,HS.out.gr.size,ah HS.out.gr (ar g2 _)⟩⟩;rintro L R0 ⟨b,T2,e1,_,_,e4⟩;cases e1;exact HS.out.full (HN.out.trans H16.out) HU.out L R0 e4
   ·have q1:((n:Int)==16)=false:=by rw[Z8];omega
    have q2:(n==16)=false:=by rw[Z8];exact h16
    obtain⟨hs1,hs2⟩:=CQ (show n≤16 by omega);have H16:=hid (show Tm.Its.len l < 16 by rw[HN.out];omega);clear h16 hlen16;go_wp2_with fail;have HIT:=hid (CP (HI.out T0 (by have:=HS.out.suf.length_le;simp;omega) HT0.out) _ HS.out.env HS.out.rd);unfold wM Bad aD at HIT;refine HIT.out.mono ?_;rintro e w4 (⟨I,R,k0,k1,k4,k5,k9,s2,s3,s10,s11,b6,b7,p8,a12,n12,c12,hp,rfl,hen,hr4,hg4⟩|⟨hno,g,en,p,rfl,g1,g2,g3⟩)
    ·have HP:=hid hp;have HEN:=hid hen;have HR4:=hid hr4;have HG4:=hid hg4;have hown4:=HS.out.own.grown hg4 (fun y hy e=>by injection e with e;have ho:=HS.out.own;subst hy;have:=ho.lt.1;have:=HS.out.lt;omega);rw[HN.out]at hown4;have hbs:w1.heap.size≤w4.heap.size:=Nat.le_trans HS.out.gr.size hg4.size;have HO4:=hid hown4;clear hp hen hr4 hg4 hown4 HIT;go_wp2_with (with_reducible refine bS w4 rfl _ _ 63 rfl w1.heap.size 70 (.agg #[.int .i64 0,.int .i64 0,.string ByteArray.empty,.string ByteArray.empty,.int .i64 0,.int .i64 0,.bool false,.bool false,.pointer none,.int .i64 0,.string ByteArray.empty,.string ByteArray.empty,.slice none 0 0]) 13 144 Tryz.underlying63 Fh rfl (by decide) a n cap vs rfl HO4.out [.int .i64 (k0:Nat),.int .i64 (k1:Nat),.string s2,.string s3,.int .i64 (k4:Nat),.int .i64 (k5:Nat),.bool b6,.bool b7,.pointer p8,.int .i64 (k9:Nat),.string s10,.string s11,.slice a12 n12 c12] rfl (by simp[Value.oneCell']) rfl hs1 hs2 hbs ?_;intro a' cap' w5 hown5 hgrow5 hloc5 hsz5 hex5);have HS5:=hid (HS.out.push H16.out HP.out HEN.out HR4.out HG4.out (by rw[HN.out];exact hown5) hgrow5 hloc5);have hml:Rd.leftOf w5 rb < Rd.leftOf w3 rb:=by
      rw[HS5.out.rd.left,HS.out.rd.left];exact HP.out.suf.2
     have HML:=hid hml;have hl5:Tm.Its.len (l.app I)=n+1:=by rw[Tm.AQ,HP.out.one,HN.out]
     clear hown5 hgrow5 hloc5 hsz5 hex5 hml;go_wp2_with fail;go_roundw
     case rel=>exact⟨l.app I,a',cap',R,_,by rw[hl5],HS5⟩
     case measure=>exact HML.out
    ·go_wp2_with fail;refine⟨rfl,.inr ⟨?_,g,en,p,rfl,g1,Nat.le_trans HS.out.gr.size g2,ah HS.out.gr g3⟩⟩;rintro L R0 ⟨b,T2,e1,_,_,e4⟩;cases e1;exact HS.out.stuck HU.out hno L R0 e4
theorem qp(rb E d:Nat)(T:List Rd.Tok)(ht:Tm.al T≠[123]):nM rb E d T:=by
 intro w he hr;have hto:al T=Tm.al T:=by cases T <;> rfl
 have hTX:=bJ rb T E w hr;rw[hto]at hTX;have HTX:=hid hTX;have hM:=dF w rb E T [123] (by simp) hr;unfold Bad aD at hM;have HM:=hid hM;have HHT:=hid ht;have q:(Tm.al T==[123])=false:=by rw[Z8];exact ht
 clear hTX hM ht he hr hto;generalize hs:Tm.al T=s at *
 have HSS:=hid hs;clear hs;go_enter Tryz.func55,Tryz.ntmps55;go_wp2_with fail;refine HTX.out.mono ?_;rintro e w1 ⟨rfl,rfl⟩;go_wp2_with fail;refine HM.out.mono ?_;rintro e w2 (⟨t,R,rfl,h2,_⟩|⟨_,g,en,p,rfl,g1,g2,g3⟩)
 ·exact absurd (HSS.out.symm.trans h2) HHT.out
 ·go_wp2_with fail;refine⟨rfl,.inr ⟨?_,g,en,p,rfl,g1,g2,g3⟩⟩;rintro L R0 ⟨b,T2,rfl,e2,_,e4⟩;exact HHT.out (HSS.out.symm.trans e2)
theorem zr(rb E d:Nat)(t:Rd.Tok)(T:List Rd.Tok)(ht:t.1=[123])(hd:8 < d)(hd2:d≤1000):nM rb E d (t::T):=by
 intro w he hr;have hTX:=bJ rb (t::T) E w hr;rw[show al (t::T)=t.1 from rfl,ht]at hTX;have HTX:=hid hTX;have HA:=hid (bW rb (t::T) E w hr);rw[show Ex.dY E (t::T)=t.2 from rfl]at HA;have d8:decide ((8:Int) < (d:Int))=true:=Z9 (by omega);have d8n:decide (8 < d)=true:=Z9 hd;have HDD:=hid hd;have hF:=dC rb 4 t.2 w;unfold aD at hF;have HF:=hid hF;clear hTX ht he hr hd hd2 hF;go_enter Tryz.func55,Tryz.ntmps55;go_wp2_with fail;refine HTX.out.mono ?_;rintro e w1 ⟨rfl,rfl⟩;go_wp2_with fail;refine HA.out.mono ?_;rintro e w1 ⟨rfl,rfl⟩;go_wp2_with fail;refine HF.out.mono ?_;rintro e w5 ⟨rfl,g1,g2⟩;go_wp2_with fail;refine⟨rfl,.inr ⟨?_,_,4,t.2,rfl,g1,Z5 _,ar g2 _⟩⟩;rintro L R0 ⟨b,T2,e1,_,e3,_⟩;exact absurd e3 (by have:=HDD.out;omega)
theorem sW(rb E:Nat):∀(n:Nat) (T:List Rd.Tok),T.length≤n→fK T→∀d,d≤9→nM rb E d T
 |0,T,hn,hT,d,hd=>by
  obtain rfl:T=[]:=List.eq_nil_of_length_eq_zero (by omega);exact qp rb E d [] (by decide)
 |n+1,T,hn,hT,d,hd=>by
  by_cases h1:Tm.al T=[123]
  ·cases T with
   |nil=>exact absurd h1 (by decide)
   |cons t T=>
    by_cases h2:d≤8
    ·refine zq rb E d t T h1 h2 hT fun T' hl hT'=> ?_
     simp only[Z6]at hn hl;exact Fi rb E d T' h2 hT' fun T'' hl2 hT''=>sW rb E n T'' (by omega) hT'' (d+1) (by omega)
    ·exact zr rb E d t T h1 (by omega) (by omega)
  ·exact qp rb E d T h1
theorem CR(rb E:Nat)(T:List Rd.Tok)(hT:fK T)(w:World)(he:Env w rb)(hr:Rdr w rb T E):
  Calls Tryz.prog 55 #[.pointer (some ⟨rb,0,none⟩),.int .i64 1] w (jz w rb E 1 T):=sW rb E T.length T (Z5 _) hT 1 (by omega) w he hr
theorem Fj:(Tryz.prog.info? 97).map (fun i=>(i.zero,i.size,i.bytes))=some (some (.agg #[.string ByteArray.empty,.int .i64 0,.slice none 0 0]),3,48):=by kernel_rfl
def wO(w w':World)(rb:Nat):Prop:=∀g xs,rb < g→ae w g 0 70 xs→w'.heap[g]? =w.heap[g]?
namespace Tm
theorem Enc.sX{w w':World}{rb:Nat}{ok:Nat→Prop}(hk:jy w w' rb)(hi:wO w w' rb):∀(l:Its) (vs:List Value),Enc w rb ok l vs→Enc w' rb ok l vs
 | .nil,vs,e=>e
 | .cons a l,vs,e=>by
  obtain⟨cv,us,h1,h2,h3⟩:=e;exact⟨cv,us,h1.an hk,h2,Enc.sX hk hi l us h3⟩
 | .when a c b l,vs,e=>by
  obtain⟨cb,ga,cap,bs,us,h1,h2,h3,h4,h5,h6⟩:=e;refine⟨cb,ga,cap,bs,us,IsX.an hk c cb h1,h2.an fun x hx=> ?_,h3,Enc.sX hk hi b bs h4,h5,Enc.sX hk hi l us h6⟩;subst hx;exact hi _ _ (by have:=h2.lt.1;omega) h2.row.2.2.2.2
theorem qf.low{w:World}{rb rb':Nat}(h:rb'≤rb){c:Option Ex.X}{v:Value}(hc:qf w rb c v):qf w rb' c v:=by
 cases c with
 |none=>exact hc
 |some x=>
  obtain⟨b,h1,h2⟩:=hc;exact⟨b,h1,IsX.mono h x b h2⟩
theorem Enc.low{w:World}{rb rb':Nat}{ok:Nat→Prop}(hb:rb'≤rb):∀(l:Its) (vs:List Value),Enc w rb ok l vs→Enc w rb' ok l vs
 | .nil,vs,e=>e
 | .cons a l,vs,e=>by
  obtain⟨cv,us,h1,h2,h3⟩:=e;exact⟨cv,us,h1.low hb,h2,Enc.low hb l us h3⟩
 | .when a c b l,vs,e=>by
  obtain⟨cb,ga,cap,bs,us,h1,h2,h3,h4,h5,h6⟩:=e;exact⟨cb,ga,cap,bs,us,IsX.mono hb c cb h1,h2.mono (by omega),h3,Enc.low hb b bs h4,h5,Enc.low hb l us h6⟩
def bu(w:World)(rb:Nat)(l:Its)(bs:List Value):Prop:=Enc w rb (fun _=>True) l bs
theorem bu.of{w:World}{rb:Nat}{ok:Nat→Prop}{l:Its}{vs:List Value}(h:Enc w rb ok l vs):bu w rb l vs:=Enc.mono (fun _ _=>trivial) l vs h
def cI(w:World)(rb:Nat):List Ty→List Value→Prop
 |[],vs=>vs=[]
 |t::r,vs=>∃ga cap bs us,ak w (rb+1) 70 13 ga t.items.len cap bs∧bu w rb t.items bs∧vs=[.string (aa t.name),.int .i64 (t.at_:Nat),.slice ga t.items.len cap]++us∧cI w rb r us
theorem cI.an{w w':World}{rb:Nat}(hk:jy w w' rb)(hi:wO w w' rb):∀(l:List Ty) (vs:List Value),cI w rb l vs→cI w' rb l vs
 |[],vs,e=>e
 |t::r,vs,e=>by
  obtain⟨ga,cap,bs,us,h1,h2,h3,h4⟩:=e;refine⟨ga,cap,bs,us,h1.an fun x hx=> ?_,Enc.sX hk hi _ _ h2,h3,cI.an hk hi r us h4⟩;subst hx;exact hi _ _ (by have:=h1.lt.1;omega) h1.row.2.2.2.2
theorem cI.low{w:World}{rb rb':Nat}(hb:rb'≤rb):∀(l:List Ty) (vs:List Value),cI w rb l vs→cI w rb' l vs
 |[],vs,e=>e
 |t::r,vs,e=>by
  obtain⟨ga,cap,bs,us,h1,h2,h3,h4⟩:=e;exact⟨ga,cap,bs,us,h1.mono (by omega),Enc.low hb _ _ h2,h3,cI.low hb r us h4⟩
theorem cI.app{w:World}{rb:Nat}{m:List Ty}{us:List Value}(hm:cI w rb m us):∀(l:List Ty) (vs:List Value),cI w rb l vs→cI w rb (l++m) (vs++us)
 |[],vs,e=>by rw[show vs=[]from e];exact hm
 |t::r,vs,e=>by
  obtain⟨ga,cap,bs,ys,h1,h2,rfl,h4⟩:=e;exact⟨ga,cap,bs,ys++us,h1,h2,by rw[List.append_assoc],cI.app hm r ys h4⟩
theorem wP{w w':World}{rb:Nat}(hg:w.grownBy w' (some rb)):jy w w' rb:=fun g xs h hr=>hg.block g hr.lt (fun e=>by injection e with e;omega)
theorem wQ{w w':World}{rb:Nat}(hg:w.grownBy w' (some rb)):wO w w' rb:=fun g xs h hr=>hg.block g hr.lt (fun e=>by injection e with e;omega)
theorem cI.grown{w w':World}{rb:Nat}(hg:w.grownBy w' (some rb)){l:List Ty}{vs:List Value}(h:cI w rb l vs):cI w' rb l vs:=cI.an (wP hg) (wQ hg) l vs h
theorem sY{E n:Nat}{T:List Rd.Tok}{L:List Ty}(h:Tys E n T L):(T=[]∧L=[])∨(n < 8∧∃t m U R ty l,T=t::m::U∧t.1=cS∧aP m.1=true∧nG E 1 U ty R∧Tys E (n+1) R l∧L=⟨m.1,m.2,ty⟩::l):=by
 cases h with
 |fin=>exact .inl ⟨rfl,rfl⟩
 |one h1 h2 h3 h4 h5 h6=>exact .inr ⟨h1,_,_,_,_,_,_,rfl,h2,h3,⟨_,_,rfl,h4,by omega,h5⟩,h6,rfl⟩
theorem Hy{E n:Nat}{t m:Rd.Tok}{U R:List Rd.Tok}{ty:Its}{l:List Ty}(h1:n < 8)(h2:t.1=cS)(h3:aP m.1=true)(h4:nG E 1 U ty R)(h5:Tys E (n+1) R l):Tys E n (t::m::U) (⟨m.1,m.2,ty⟩::l):=by
 obtain⟨b,T2,rfl,g1,g2,g3⟩:=h4;exact .one h1 h2 h3 g1 g3 h5
end Tm
structure qq(w0 w:World)(rb E:Nat)(T2 T:List Rd.Tok)(ls:List Tm.Ty)(a:Option Addr)(cap:Nat)(vs:List Value):Prop where
 gr:w0.grownBy w (some rb)
 env:Env w rb
 lt:rb < w0.heap.size
 rd:Rdr w rb T E
 own:ak w w0.heap.size 97 3 a ls.length cap vs
 enc:Tm.cI w rb ls vs
 few:ls.length≤8
 fwd:∀m,Tm.Tys E ls.length T m→Tm.Tys E 0 T2 (ls++m)
 bwd:∀L,Tm.Tys E 0 T2 L→∃m,Tm.Tys E ls.length T m
 suf:T <:+ T2
structure nO(w0 w:World)(rb tb E:Nat)(R:List Rd.Tok)(cs:List Value):Prop where
 gr:w0.grownBy w (some rb)
 env:Env w rb
 lo:w0.heap.size≤tb
 lt:rb < w0.heap.size
 rd:Rdr w rb R E
 row:ae w tb 0 97 cs
section
variable{w0 w w' w1 w2:World}{rb tb E:Nat}{T2 T R R':List Rd.Tok}{ls:List Tm.Ty}{a:Option Addr}{cap:Nat}{vs cs:List Value}
theorem nO.move(h:nO w0 w rb tb E R cs)(hr:Rdr w' rb R' E)(hg:w.grownBy w' (some rb)):nO w0 w' rb tb E R' cs:=
 ⟨ah h.gr hg,h.env.grown hg h.rd.lt,h.lo,h.lt,hr,h.row.of_heap (hg.block tb h.row.lt (fun e=>by injection e with e;have:=h.lt;have:=h.lo;omega))⟩
theorem nO.set(h:nO w0 w rb tb E R cs)(k:Nat)(hk:k < cs.length)(v:Value):nO w0 (w.setCell ⟨tb,k,none⟩ v) rb tb E R (cs.set k v):=
 ⟨cE h.gr h.lo _,AY h.env (by have:=h.lt;have:=h.lo;omega) v,h.lo,h.lt,h.rd.gf (by have:=h.lt;have:=h.lo;omega) _,h.row.ax k hk v⟩
theorem nO.cell(h:nO w0 w rb tb E R cs)(k:Nat)(hk:k < cs.length):w.cell? ⟨tb,k,none⟩=some cs[k]∧w.frozen? ⟨tb,k,none⟩=false:=⟨h.row.cell0 k hk,h.row.frozen0 k hk⟩
theorem nO.start(he:Env w rb)(hr:Rdr w rb R E)(a:Nat):nO w (w.alloc (.cells #[.string {data:= #[]},.int .i64 (a:Nat),.slice none 0 0] 97)) rb w.heap.size E R [.string {data:= #[]},.int .i64 (a:Nat),.slice none 0 0]:=by
 have h1:=(Y4 w.heap.size w).alloc (Z5 _) (.cells #[.string {data:= #[]},.int .i64 (a:Nat),.slice none 0 0] 97);exact⟨ar h1 _,he.grown (ar h1 _) hr.lt,Z5 _,hr.lt,hr.below h1,ae.new w 97 #[.string {data:= #[]},.int .i64 (a:Nat),.slice none 0 0]⟩
theorem qq.start(he:Env w rb)(hr:Rdr w rb T E):qq w w rb E T T [] none 0 []:=
 ⟨dS _ _,he,hr.lt,hr,ak.nil _ _ _ _,rfl,by simp,fun m h=>h,fun L h=>⟨L,h⟩,List.suffix_refl _⟩
theorem nO.keeps(h:nO w0 w rb tb E R cs)(k:Nat)(v:Value):jy w (w.setCell ⟨tb,k,none⟩ v) rb∧wO w (w.setCell ⟨tb,k,none⟩ v) rb:=by
 refine⟨fun g xs _ hg=>Below.heap_setCell w ⟨tb,k,none⟩ v g ?_,fun g xs _ hg=>Below.heap_setCell w ⟨tb,k,none⟩ v g ?_⟩
 ·rintro rfl;exact absurd (h.row.ty hg) (by decide)
 ·rintro rfl;exact absurd (h.row.ty hg) (by decide)
theorem qq.push{t m:Rd.Tok}{U:List Rd.Tok}{ty:Tm.Its}{ga:Option Addr}{cb:Nat}{bs:List Value}(h:qq w0 w rb E T2 (t::m::U) ls a cap vs)(hn:ls.length < 8)(ht:t.1=Tm.cS)(hm:Tm.aP m.1=true)(hp:Tm.nG E 1 U ty R)
  (hr:Rdr w1 rb R E)(hg:w.grownBy w1 (some rb))(ho:ak w1 (rb+1) 70 13 ga (Tm.Its.len ty) cb bs)(hen:Tm.bu w1 rb ty bs)
  {a':Option Addr}{cap':Nat}(hown:ak w2 w0.heap.size 97 3 a' (ls.length+1) cap' (vs++[.string (aa m.1),.int .i64 (m.2:Nat),.slice ga (Tm.Its.len ty) cb]))(hgr:w1.grownBy w2 (blk a)):
  qq w0 w2 rb E T2 R (ls++[⟨m.1,m.2,ty⟩]) a' cap' (vs++[.string (aa m.1),.int .i64 (m.2:Nat),.slice ga (Tm.Its.len ty) cb]):=by
 have hoa:∀x,a=some x→w0.heap.size≤x.block∧x.block < w.heap.size:=fun x hx=>by have ho:=h.own;subst hx;exact ho.lt
 have hkeep:∀b,b < w1.heap.size→(∀x,a=some x→b≠x.block)→w2.heap[b]? =w1.heap[b]? :=fun b hb hne=>hgr.block b hb (fun e=>by
  cases ha:a with
  |none=>rw[ha]at e;simp[blk]at e
  |some x=>rw[ha]at e;simp only[blk,Option.map_some]at e;injection e with e;exact hne x ha e)
 have hlt:=h.lt;have hs1:w.heap.size≤w1.heap.size:=hg.size;have hlow:∀b,b < w0.heap.size→w2.heap[b]? =w1.heap[b]? :=fun b hb=>hkeep b (Nat.lt_of_lt_of_le hb (Nat.le_trans h.gr.size hg.size)) (fun x hx=>by have:=hoa x hx;omega)
 have ht':∀x,a=some x→∀e,e≠97→∀xs,ae w1 x.block 0 e xs→False:=fun x hx e he xs hrow=>by
  have ho:=(h.own.grown hg (fun y hy e=>by injection e with e;have:=hoa y hy;omega));subst hx;exact he (ho.row.2.2.2.2.ty hrow).symm
 have hkx:jy w1 w2 rb:=fun g xs _ hrow=>hkeep g hrow.lt (fun x hx e=>ht' x hx _ (by decide) xs (e▸hrow))
 have hki:wO w1 w2 rb:=fun g xs _ hrow=>hkeep g hrow.lt (fun x hx e=>ht' x hx _ (by decide) xs (e▸hrow))
 have hs2:w1.heap.size≤w2.heap.size:=hgr.size;refine⟨?_,wN (h.env.grown hg h.rd.lt) (fun b hb=>hlow b (by omega)),hlt,hr.an (fun b hb=>hlow b (by omega)),by rw[Z7];exact hown,?_,by rw[Z7];simp;omega,?_,?_,?_⟩
 ·have h1:=ah h.gr hg;exact⟨hgr.os.trans h1.os,hgr.tape.trans h1.tape,hgr.output.trans h1.output,by have:=h1.size;omega,fun b hb hne=>(hlow b hb).trans (h1.block b hb hne)⟩
 ·refine Tm.cI.app ?_ ls vs (Tm.cI.an hkx hki ls vs (Tm.cI.grown hg h.enc));refine⟨ga,cb,bs,[],ho.an fun x hx=> ?_,Tm.Enc.sX hkx hki _ _ hen,rfl,rfl⟩;subst hx;exact hki _ _ (by have:=ho.lt.1;omega) ho.row.2.2.2.2
 ·intro l hl;rw[Z7]at hl;rw[List.append_assoc];exact h.fwd _ (Tm.Hy hn ht hm hp hl)
 ·intro L hL;obtain⟨l,hl⟩:=h.bwd L hL;rcases Tm.sY hl with⟨h1,_⟩|⟨_,t',m',U',R',ty',l',h1,h2,h3,h4,h5,h6⟩
  ·cases h1
  ·cases h1;obtain⟨rfl,rfl⟩:=hp.det h4;rw[Z7];exact⟨l',h5⟩
 ·exact(hp.suf.1.trans ((List.suffix_cons _ _).trans (List.suffix_cons _ _))).trans h.suf
theorem qq.stuck(h:qq w0 w rb E T2 T ls a cap vs)(hne:T≠[])(hno:ls.length < 8→∀t m U R ty,T=t::m::U→t.1=Tm.cS→Tm.aP m.1=true→Tm.nG E 1 U ty R→False):∀L,¬Tm.Tys E 0 T2 L:=by
 intro L hL;obtain⟨l,hl⟩:=h.bwd L hL;rcases Tm.sY hl with⟨h1,_⟩|⟨h0,t,m,U,R,ty,l',h1,h2,h3,h4,_⟩
 ·exact hne h1
 ·exact hno h0 t m U R ty h1 h2 h3 h4
theorem qq.done(h:qq w0 w rb E T2 [] ls a cap vs):Tm.Tys E 0 T2 ls:=by
 have:=h.fwd [] .fin;rwa[List.append_nil]at this
end
end
section
open Go Go.RowKit
open Rd
open Ly
def uD(w:World)(b m:Nat)(F:Value)(s:Tm.Wd)(st:St)(o:Option (Nds×Ex.Names×St))(e:Ending)(w':World):Prop:=But w w' b (some m)∧match o with
 |some p=>(∃ga cap bl vs,e= .returned (.slice ga p.1.len cap)∧aM w' w.heap.size p.1 ga cap bl vs)∧LR w' b F s p.2.2∧(st.at_≤p.2.2.at_∧st.n+p.1.len≤p.2.2.n)∧(∃n,NmM w' m n p.2.1∧n≤p.2.2.n)
 |none=>oS e
def bV(U w:World)(rb fb:Nat)(A:List Tm.Ty):Prop:=∃n G,fC Tryz.prog 9 w fb n G∧(∀t∈A,∃ga cap bs,G (.string t.name)=some (.slice ga t.items.len cap)∧ak U (rb+1) 70 13 ga t.items.len cap bs∧Tm.bu U rb t.items bs)∧∀nm:Tm.Wd,(∀t∈A,t.name≠nm)→G (.string nm)=none
theorem bV.an{U w w':World}{rb fb:Nat}{A:List Tm.Ty}(h:bV U w rb fb A)(hh:w'.heap[fb]? =w.heap[fb]?):bV U w' rb fb A:=by
 obtain⟨n,G,h1,h2⟩:=h;exact⟨n,G,h1.an hh,h2⟩
theorem bV.lt{U w:World}{rb fb:Nat}{A:List Tm.Ty}(h:bV U w rb fb A):fb < w.heap.size:=by obtain⟨n,G,h1,_⟩:=h;exact h1.lt
theorem bV.ne{U w:World}{rb fb:Nat}{A:List Tm.Ty}(h:bV U w rb fb A){g off:Nat}{e:TypeId}{xs:List Value}(hr:ae w g off e xs):fb≠g:=by
 obtain⟨n,G,h1,_⟩:=h;obtain⟨es,cl,h2⟩:=h1.block;rintro rfl;obtain⟨c,z,h3,_⟩:=hr;rw[h3]at h2;injection h2 with h2
 cases h2
theorem Ly.NmM.ne{w:World}{b n:Nat}{N:Ex.Names}(h:NmM w b n N){g off:Nat}{e:TypeId}{xs:List Value}(hr:ae w g off e xs):b≠g:=by
 obtain⟨D,⟨es,clock,hb,_⟩,_⟩:=h;rintro rfl;obtain⟨c,z,h3,_⟩:=hr;rw[h3]at hb;injection hb with hb
 cases hb
structure RdE(U w:World)(rb fb b m n:Nat)(A:List Tm.Ty)(s:Tm.Wd)(N:Ex.Names)(st:St):Prop where
 bel:Below U.heap.size U w
 bU:U.heap.size≤b
 mU:U.heap.size≤m
 fm:fb≠m
 form:bV U w rb fb A
 lr:LR w b (.map (some fb)) s st
 nm:NmM w m n N
 few:n≤st.n
def sZ(A:List Tm.Ty)(S:Sub)(s:Tm.Wd)(l:Tm.Its):Prop:=∀(U w:World) (rb fb b m n cap:Nat) (ga:Option Addr) (bs:List Value) (N:Ex.Names) (st:St),RdE U w rb fb b m n A s N st→
 ak U (rb+1) 70 13 ga l.len cap bs→Tm.bu U rb l bs→
 Calls Tryz.prog 65 #[.pointer (some ⟨b,0,none⟩),.slice ga l.len cap,.map (some m)] w (uD w b m (.map (some fb)) s st (bO S s l N st))
namespace Ly
def fp(S:Sub)(s:Tm.Wd)(N:Ex.Names)(c:Ex.X)(l:Tm.Its)(st:St):Option (Nd×Ex.Names×St):=(nod st).bind fun st1=>(Ex.ev N c).bind fun v=>
 (if v=0 then some (Nds.nil,N,st1)else bO S s l N st1).map fun p=>(⟨[],4,st.at_,p.2.2.at_ - st.at_,if v=0 then 0 else 1,[],p.1⟩,p.2)
end Ly
def AZ(w:World)(b m:Nat)(F:Value)(s:Tm.Wd)(st:St)(o:Option (Nd×Ex.Names×St))(e:Ending)(w':World):Prop:=But w w' b (some m)∧match o with
 |some p=>(∃v bl,e= .returned v∧NdV w' w.heap.size bl p.1 v∧bl.Nodup)∧LR w' b F s p.2.2∧(st.at_≤p.2.2.at_∧st.n < p.2.2.n)∧(∃n,NmM w' m n p.2.1∧n≤p.2.2.n)
 |none=>oS e
theorem Fk(A:List Tm.Ty)(S:Sub)(s:Tm.Wd)(l:Tm.Its)(hI:sZ A S s l)(b m n rb fb cb ai:Nat)(g o:Nat)(st:St)(N:Ex.Names)(c:Ex.X)(ga:Option Addr)(cap:Nat)(bs:List Value)(U w:World)
  (hE:RdE U w rb fb b m n A s N st)(hs:s.length≤1000000)(hf:Ex.kK Num.numOf Num.dec c)(hx:IsX U rb cb c)(hoi:ak U (rb+1) 70 13 ga l.len cap bs)(hen:Tm.bu U rb l bs)
  (hr:ae w g o 70 (Tm.au ai (.pointer (some ⟨cb,0,none⟩)) (.slice ga l.len cap))):
  Calls Tryz.prog 30 #[.pointer (some ⟨b,0,none⟩),.pointer (some ⟨g,o,none⟩),.map (some m)] w (AZ w b m (.map (some fb)) s st (fp S s N c l st)):=by
 obtain⟨F,hF⟩:∃F,F=Value.map (some fb):=⟨_,rfl⟩;have hL:LR w b F s st:=by rw[hF];exact hE.lr
 have hgb:g≠b:=by
  rintro rfl;exact absurd (hr.ty hL.row) (by decide)
 have hg:=hgb;have HE:=hid hE;have HF:=hid hF;have hmlt:=hE.nm.lt;have hmb:m≠b:=hE.nm.ne hL.row;have hgm:g≠m:=fun e=>hE.nm.ne hr e.symm
 rw[← hF];clear hF hE;have hglt:=hr.lt;have hblt:=hL.row.lt;obtain⟨W0,hW0⟩:∃W0,W0=w.alloc (.cells cM.toArray 28):=⟨_,rfl⟩;have hr0:ae W0 g o 70 (Tm.au ai (.pointer (some ⟨cb,0,none⟩)) (.slice ga l.len cap)):=by rw[hW0];exact hr.alloc _
 have hL0:LR W0 b F s st:=by rw[hW0];exact hL.an (Below.heap_alloc _ _ _ hblt)
 have c0:=hr0.cell 0 (by simp[Tm.bh]);have c2:=hr0.cell 2 (by simp[Tm.bh]);have hnd:=jx b F s ([]) 4 g o st W0 hL0 hg c2;have c0':W0.cell? ⟨g,o,none⟩=some (.int .i64 4):=by
  have:=c0;simp only[Tm.au,Z0,Y2]at this;exact this
 have HND:=hid (show Calls Tryz.prog 60 #[.pointer (some ⟨b,0,none⟩),.pointer (some ⟨g,o,none⟩),.int .i64 4] W0 (fB W0 b F s ([]) 4 st)from hnd);have HR0:=hid hr0;have HL:=hid hL;rw[hW0]at c0';have HW0:=hid hW0;clear hnd c0 c2 hr0 hL0 hr hL hW0;go_enter Tryz.func30,Tryz.ntmps30;go_wp2_with fail;rw[← HW0.out];refine HND.out.mono ?_;intro e w1 hno;unfold fB at hno;cases hn:nod st with
 |none=>
  rw[hn]at hno;obtain⟨hb1,t,v,he⟩:=hno;unfold bC at he;subst he;have HB1:=hid hb1;have ho:fp S s N c l st=none:=by unfold fp;rw[hn];rfl
  rw[ho];clear hb1 ho hn;go_wp2_with fail;exact⟨rfl,mg HW0.out HB1.out hblt,t,v,rfl⟩
 |some st1=>
  rw[hn]at hno;obtain⟨hb1,he,hL1⟩:=hno;have he2:e= .returned (.agg #[.string (aa ([])),.int .i64 4,.int .i64 (st.at_:Nat),.int .i64 0,.int .i64 0,.string {data:= #[]},.slice none 0 0]):=he;subst he2;have hat:st1.at_=st.at_:=lx hn;have hbs:=BxS.start (m:=(some m)) (nm:=[]) (kd:=4) HL.out HW0.out hb1 hL1 (fun x e=>by cases e;exact hmlt);have hbx:ae (w1.alloc (.cells #[.string {data:= #[]},.int .i64 0,.int .i64 0,.int .i64 0,.int .i64 0,.string {data:= #[]},.slice none 0 0] 28)) w1.heap.size 0 28 [.string {data:= #[]},.int .i64 0,.int .i64 0,.int .i64 0,.int .i64 0,.string {data:= #[]},.slice none 0 0]:=ae.new w1 28 #[.string {data:= #[]},.int .i64 0,.int .i64 0,.int .i64 0,.int .i64 0,.string {data:= #[]},.slice none 0 0];have y0:=hbx.cell0 0 (by simp);have z0:=hbx.frozen0 0 (by simp);have y1:=hbx.cell0 1 (by simp);have z1:=hbx.frozen0 1 (by simp);have y2:=hbx.cell0 2 (by simp);have z2:=hbx.frozen0 2 (by simp);have y3:=hbx.cell0 3 (by simp);have z3:=hbx.frozen0 3 (by simp);have y4:=hbx.cell0 4 (by simp);have z4:=hbx.frozen0 4 (by simp);have y5:=hbx.cell0 5 (by simp);have z5:=hbx.frozen0 5 (by simp);have y6:=hbx.cell0 6 (by simp);have z6:=hbx.frozen0 6 (by simp);simp only[Z0,Z1]at y0 y1 y2 y3 y4 y5 y6;have hg0:g < W0.heap.size:=HR0.out.lt;have hr1:ae w1 g o 70 (Tm.au ai (.pointer (some ⟨cb,0,none⟩)) (.slice ga l.len cap)):=HR0.out.of_heap (hb1.block g hg0 hg (fun e=>by cases e));obtain⟨V,hV⟩:∃V,V=w1.alloc (.cells #[.string (aa ([])),.int .i64 4,.int .i64 (st.at_:Nat),.int .i64 0,.int .i64 0,.string {data:= #[]},.slice none 0 0] 28):=⟨_,rfl⟩;have hr2:ae V g o 70 (Tm.au ai (.pointer (some ⟨cb,0,none⟩)) (.slice ga l.len cap)):=by rw[hV];exact hr1.alloc _
  have hbs2:BxS w V b w1.heap.size (some m) F s st1 (ab ([]) 4 st.at_ 0 0 [] (.slice none 0 0)):=by rw[hV];exact hbs
  have hgn:g≠w1.heap.size:=by have:=hr1.lt;omega
  have HR2:=hid hr2;have HBS:=hid hbs2;have HV:=hid hV;have hn1:=oF hn;have k8:=hr2.cell 8 (by simp[Tm.bh]);have k0:=hr2.cell 0 (by simp[Tm.bh]);simp only[Tm.au,Z0,Z1,Y2]at k8 k0;have hUV:Below U.heap.size U V:=But.below HE.out.bel hbs2.but HE.out.bel.size HE.out.bU (fun x e=>by cases e;exact HE.out.mU);have hbV:But w1 V b none:=by rw[hV];exact But.aA ((Y4 _ _).alloc (Z5 _) _)
  have hb0:But w W0 b none:=by rw[HW0.out];exact But.aA ((Y4 _ _).alloc (Z5 _) _)
  have hbwV:But w V b none:=(hb0.trans hb1).trans hbV;have hNV:NmM V m n N:=HE.out.nm.an (hbwV.block m hmlt hmb (fun e=>by cases e));have hFV:bV U V rb fb A:=HE.out.form.an (hbwV.block fb HE.out.form.lt (HE.out.form.ne HL.out.row) (fun e=>by cases e));obtain⟨kn,hNA⟩:=hNV.at_;have HNUM:=hid (ly V rb cb kn c _ N hNA (zo hx hUV) hf);have HUV:=hid hUV;have HNV:=hid hNV;have HFV:=hid hFV;rw[hV]at k8 k0;clear hb1 hL1 he hbx hr1 hr2 hbs hbs2 hV hNA hNV hUV hFV hbV hb0 hbwV;go_wp2_with fail;rw[← HV.out];refine HNUM.out.mono ?_;unfold ql;rintro e w2 ⟨hb2,hv⟩;clear y0 y1 y2 y3 y4 y5 y6 z0 z1 z2 z3 z4 z5 z6 k8 k0;have hs2:=HBS.out.up hb2;have HS2:=hid hs2;have HB2:=hid hb2;cases hev:Ex.ev N c with
  |none=>
   rw[hev]at hv;obtain⟨t,v,he⟩:=hv;unfold bC at he;subst he;have ho:fp S s N c l st=none:=by unfold fp;rw[hn];simp only[Option.bind_some,hev];rfl
   rw[ho];clear hb2 hs2 ho hn hev;go_wp2_with fail;exact⟨rfl,HS2.out.but,t,v,rfl⟩
  |some v=>
   rw[hev]at hv;have hv2:e= .returned (.int .i64 v):=hv;subst hv2;have hN2:NmM w2 m n N:=HNV.out.an (hb2.block m HNV.out.lt);have hF2:bV U w2 rb fb A:=HFV.out.an (hb2.block fb HFV.out.lt);have hU2:Below U.heap.size U w2:=HUV.out.trans (hb2.mono HUV.out.size);have HN2:=hid hN2;have HF2:=hid hF2;have HU2:=hid hU2
   by_cases hv0:v=0
   ·subst hv0;have ho:fp S s N c l st=some (⟨[],4,st.at_,st1.at_ - st.at_,0,[],.nil⟩,N,st1):=by unfold fp;rw[hn];simp only[Option.bind_some,hev];rfl
    have HO:=hid ho;have hle:=hs2.lr.len;have hat1:st.at_≤st1.at_:=by omega
    clear hat;have HN1:=hid hn1;clear hb2 hs2 hN2 hF2 hU2 ho hn1 hv;go_wp2_with fail;obtain⟨W,hW⟩:∃W,W=w2:=⟨_,rfl⟩;have hs5:BxS w W b w1.heap.size (some m) F s st1 [.string (aa ([])),.int .i64 ((4:Nat):Int),.int .i64 (st.at_:Nat),.int .i64 ((0:Nat):Int),.int .i64 (0),.string (aa ([])),.slice none 0 0]:=by rw[hW];exact HS2.out
    rw[← hW];have q2:=(hs5.cell 2 (by simp)).1;have q3:=(hs5.cell 3 (by simp)).1;have u3:=(hs5.cell 3 (by simp)).2;have qr:=hs5.lr.row.cell0 2 (by simp);simp only[Z0,Z1]at q2 q3 qr;have hsz:(st1.at_:Int) - (st.at_:Int)=((st1.at_ - st.at_:Nat):Int):=by omega
    have wq:wrap64 ((st1.at_:Int) - (st.at_:Int))=(st1.at_:Int) - (st.at_:Int):=IntWalk.wrap64_in _ ⟨by omega,by omega⟩;have HSZ:=hid hsz;have HS5:=hid hs5;have HWW:=hid hW;clear hsz hs5 hW;go_still_tail 8,(by kernel_rfl);change wpList _ _ _ _ _ W.drew;obtain⟨X,hX⟩:∃X,X=W.drew:=⟨_,rfl⟩;rw[← hX];have hs6:=HS5.out.drewN 1;rw[show W.drewN 1=X from hX.symm]at hs6;have y3:=(hs6.cell 3 (by simp)).1;have u3:=(hs6.cell 3 (by simp)).2;simp only[Z0,Z1]at y3;have hsX:=hs6.set 3 (by simp) (.int .i64 ((st1.at_:Int) - (st.at_:Int)));simp only[Z2,Z3]at hsX;have HSX:=hid hsX;have HXW:=hid (show ∀k:Nat,X.heap[k]? =w2.heap[k]? from fun k=>by rw[hX,HWW.out];rfl);clear hX hs6 q2 q3 qr;have r0:=(hsX.cell 0 (by simp)).1;have r1:=(hsX.cell 1 (by simp)).1;have r2:=(hsX.cell 2 (by simp)).1;have r3:=(hsX.cell 3 (by simp)).1;have r4:=(hsX.cell 4 (by simp)).1;have r5:=(hsX.cell 5 (by simp)).1;have r6:=(hsX.cell 6 (by simp)).1;simp only[Z0,Z1]at r0 r1 r2 r3 r4 r5 r6;have x0:=hsX.res.cell0 0 (by simp);have v0:=hsX.res.frozen0 0 (by simp);have x1:=hsX.res.cell0 1 (by simp);have v1:=hsX.res.frozen0 1 (by simp);have x2:=hsX.res.cell0 2 (by simp);have v2:=hsX.res.frozen0 2 (by simp);have x3:=hsX.res.cell0 3 (by simp);have v3:=hsX.res.frozen0 3 (by simp);have x4:=hsX.res.cell0 4 (by simp);have v4:=hsX.res.frozen0 4 (by simp);have x5:=hsX.res.cell0 5 (by simp);have v5:=hsX.res.frozen0 5 (by simp);have x6:=hsX.res.cell0 6 (by simp);have v6:=hsX.res.frozen0 6 (by simp);simp only[Z0,Z1]at x0 x1 x2 x3 x4 x5 x6;clear hsX;go_wp2_with fail;clear r0 r1 r2 r3 r4 r5 r6;have p0:=HSX.out.res.ax 0 (by simp) (.string (aa ([])));have r0:=p0.cell0 0 (by simp);have p1:=p0.ax 1 (by simp) (.int .i64 4);have r1:=p1.cell0 1 (by simp);have p2:=p1.ax 2 (by simp) (.int .i64 (st.at_:Nat));have r2:=p2.cell0 2 (by simp);have p3:=p2.ax 3 (by simp) (.int .i64 ((st1.at_:Int) - (st.at_:Int)));have r3:=p3.cell0 3 (by simp);have p4:=p3.ax 4 (by simp) (.int .i64 (0));have r4:=p4.cell0 4 (by simp);have p5:=p4.ax 5 (by simp) (.string (aa ([])));have r5:=p5.cell0 5 (by simp);have p6:=p5.ax 6 (by simp) (.slice none 0 0);have r6:=p6.cell0 6 (by simp);simp only[Z2,Z3,Z0,Z1]at r0 r1 r2 r3 r4 r5 r6;have hfin:=HSX.out.result (.string (aa ([]))) (.int .i64 4) (.int .i64 (st.at_:Nat)) (.int .i64 ((st1.at_:Int) - (st.at_:Int))) (.int .i64 (0)) (.string (aa ([]))) (.slice none 0 0);clear p0 p1 p2 p3 p4 p5 p6;refine bodyPost_ret (v:= .agg #[.string (aa ([])),.int .i64 4,.int .i64 (st.at_:Nat),.int .i64 ((st1.at_:Int) - (st.at_:Int)),.int .i64 (0),.string (aa ([])),.slice none 0 0]) (by simp[results,Tryz.results30,go_sem,r0,r1,r2,r3,r4,r5,r6];first|done|rfl) rfl ?_;refine⟨hfin.1,?_⟩;rw[HO.out];refine⟨⟨_,[],rfl,?_,List.nodup_nil⟩,hfin.2.1,⟨show st.at_≤st1.at_ by omega,show st.n < st1.n by have h2:=HN1.out;omega⟩,n,?_,show n≤st1.n by have h1:=HE.out.few;have h2:=HN1.out;omega⟩
    ·rw[HSZ.out];exact NdV.leaf _ _ _ _ _ _ _ _
    ·have hn1:w1.heap.size≠m:=by have:=HS2.out.lt;omega
     have hn2:w.heap.size≠m:=by omega
     exact((HN2.out.an (w':=X) (HXW.out m)).an (Below.heap_setCell X ⟨w1.heap.size,3,none⟩ _ m (Ne.symm hn1))).an (dz _ _ _ _ _ _ _ m (Ne.symm hn2))
   ·have hvd:decide (v=0)=false:=Y9 hv0;have hvb:(v==0)=false:=Z8.2 hv0;have hN1:=HN2.out.lt;have hnbm:m≠w1.heap.size:=by have:=HS2.out.lt;omega
    have hnbf:fb≠w1.heap.size:=by have:=HS2.out.lt;have:=HE.out.form.lt;omega
    have hUb:U.heap.size≤w1.heap.size:=by have:=HS2.out.lt;have:=HE.out.bel.size;omega
    have d4:=(hs2.cell 4 (by simp[ab])).1;have e4:=(hs2.cell 4 (by simp[ab])).2;simp only[ab,Z0,Z1]at d4;have hs3:=hs2.set 4 (by simp[ab]) (.int .i64 1);simp only[ab,Z2,Z3]at hs3;obtain⟨w3,hw3⟩:∃w3,w3=w2.setCell ⟨w1.heap.size,4,none⟩ (.int .i64 1):=⟨_,rfl⟩;rw[← hw3]at hs3;have hfar:∀k:Nat,k≠w1.heap.size→w3.heap[k]? =w2.heap[k]? :=fun k hk=>by rw[hw3];exact Below.heap_setCell _ _ _ _ hk
    have hr3:ae w3 g o 70 (Tm.au ai (.pointer (some ⟨cb,0,none⟩)) (.slice ga l.len cap)):=(HR2.out.of_heap (hb2.block g HR2.out.lt)).of_heap (hfar g hgn);have hE3:RdE U w3 rb fb b m n A s N st1:=⟨⟨by rw[hw3];exact hU2.os,by rw[hw3];exact hU2.tape,by rw[hw3];exact hU2.output,by rw[hw3,World.size_setCell];exact hU2.size,fun k hk=>(hfar k (by omega)).trans (hU2.block k hk)⟩,
     HE.out.bU,HE.out.mU,HE.out.fm,hF2.an (hfar fb hnbf),by rw[← HF.out];exact hs3.lr,hN2.an (hfar m hnbm),by have:=HE.out.few;omega⟩
    have hit:=hI U w3 rb fb b m n cap ga bs N st1 hE3 hoi hen;rw[← HF.out]at hit;have HIT:=hid hit;have HS3:=hid hs3;have k12:=hr3.cell 12 (by simp[Tm.bh]);simp only[Tm.au,Z0,Z1]at k12;rw[hw3]at k12;have HW3:=hid hw3;clear hb2 hs2 hN2 hF2 hU2 hn1 hv hfar hr3 hE3 hit hs3 hw3 hN1 hUb;go_wp2_with fail;rw[← HW3.out];refine HIT.out.mono ?_;unfold uD;rintro e w4 ⟨hb4,hv⟩;clear k12 d4 e4;cases hi:bO S s l N st1 with
    |none=>
     rw[hi]at hv;obtain⟨t,v,he⟩:=hv;unfold bC at he;subst he;have ho:fp S s N c l st=none:=by unfold fp;rw[hn];simp only[Option.bind_some,hev,if_neg hv0,hi];rfl
     rw[ho];have HB4:=hid hb4;clear hb4 ho hn hi hev;go_wp2_with fail;exact⟨rfl,HS3.out.but.trans HB4.out,t,v,rfl⟩
    |some p=>
     obtain⟨nds,N4,st2⟩:=p;rw[hi]at hv;obtain⟨⟨g4,c4,bl,vs,rfl,hk4⟩,hl4,hat2,n4,hN4,hn4⟩:=hv;have ho:fp S s N c l st=some (⟨[],4,st.at_,st2.at_ - st.at_,1,[],nds⟩,N4,st2):=by unfold fp;rw[hn];simp only[Option.bind_some,hev,if_neg hv0,hi];rfl
     have HO:=hid ho;have hlen:=hl4.len;have hs4:=HS3.out.move hb4 hl4;have h5:=HS3.out.row.lt;have h6:=HS3.out.lt;have hmm:∀k:Nat,k≠w1.heap.size→k≠w.heap.size→∀(W X:World),W=w4.setCell ⟨w1.heap.size,6,none⟩ (.slice g4 nds.len c4)→(∀j:Nat,X.heap[j]? =W.heap[j]?)→∀(sz v0 v1 v2 v3 v4 v5 v6:Value),(st7 (X.setCell ⟨w1.heap.size,3,none⟩ sz) w.heap.size v0 v1 v2 v3 v4 v5 v6).heap[k]? =w4.heap[k]? :=by
      intro k k1 k2 W X hW hX sz v0 v1 v2 v3 v4 v5 v6;rw[dz _ _ _ _ _ _ _ k k2,Below.heap_setCell X ⟨w1.heap.size,3,none⟩ sz k k1,hX,hW];exact Below.heap_setCell _ _ _ _ k1
     have HMM:=hid hmm;have HK4:=hid hk4;have HN4:=hid hN4;have HS4:=hid hs4;have HNN:=hid hn4;have HSB:=hid (show w.heap.size < w3.heap.size∧w1.heap.size < w3.heap.size from⟨by omega,h5⟩);have d6:=(hs4.cell 6 (by simp)).1;have e6:=(hs4.cell 6 (by simp)).2;simp only[Z0,Z1]at d6;have hs5:=hs4.set 6 (by simp) (.slice g4 nds.len c4);simp only[Z2,Z3]at hs5;have HS5b:=hid hs5;have hatC:st1.at_≤st2.at_:=hat2.1;have hatD:st1.n+nds.len≤st2.n:=hat2.2;have HNX:=hid (show st.n < st2.n by have h1:=oF hn;omega);clear hatD;have hatA:st.at_≤st2.at_:=by omega
     have hatB:st2.at_≤s.length:=hlen;clear hatC;clear hb4 hl4 hk4 hN4 hn4 hs4 hs5 ho hmm h5 h6 hlen hat hat2;go_wp2_with fail;obtain⟨W,hW⟩:∃W,W=w4.setCell ⟨w1.heap.size,6,none⟩ (.slice g4 nds.len c4):=⟨_,rfl⟩;have hs5:BxS w W b w1.heap.size (some m) F s st2 [.string (aa ([])),.int .i64 ((4:Nat):Int),.int .i64 (st.at_:Nat),.int .i64 ((0:Nat):Int),.int .i64 (1),.string (aa ([])),.slice g4 nds.len c4]:=by rw[hW];exact HS5b.out
     rw[← hW];have q2:=(hs5.cell 2 (by simp)).1;have q3:=(hs5.cell 3 (by simp)).1;have u3:=(hs5.cell 3 (by simp)).2;have qr:=hs5.lr.row.cell0 2 (by simp);simp only[Z0,Z1]at q2 q3 qr;have hsz:(st2.at_:Int) - (st.at_:Int)=((st2.at_ - st.at_:Nat):Int):=by omega
     have wq:wrap64 ((st2.at_:Int) - (st.at_:Int))=(st2.at_:Int) - (st.at_:Int):=IntWalk.wrap64_in _ ⟨by omega,by omega⟩;have HSZ:=hid hsz;have HS5:=hid hs5;have HWW:=hid hW;clear hsz hs5 hW;go_still_tail 8,(by kernel_rfl);change wpList _ _ _ _ _ W.drew;obtain⟨X,hX⟩:∃X,X=W.drew:=⟨_,rfl⟩;rw[← hX];have hs6:=HS5.out.drewN 1;rw[show W.drewN 1=X from hX.symm]at hs6;have y3:=(hs6.cell 3 (by simp)).1;have u3:=(hs6.cell 3 (by simp)).2;simp only[Z0,Z1]at y3;have hsX:=hs6.set 3 (by simp) (.int .i64 ((st2.at_:Int) - (st.at_:Int)));simp only[Z2,Z3]at hsX;have HSX:=hid hsX;have HXW:=hid (show ∀k:Nat,X.heap[k]? =W.heap[k]? from fun k=>by rw[hX];rfl);clear hX hs6 q2 q3 qr;have r0:=(hsX.cell 0 (by simp)).1;have r1:=(hsX.cell 1 (by simp)).1;have r2:=(hsX.cell 2 (by simp)).1;have r3:=(hsX.cell 3 (by simp)).1;have r4:=(hsX.cell 4 (by simp)).1;have r5:=(hsX.cell 5 (by simp)).1;have r6:=(hsX.cell 6 (by simp)).1;simp only[Z0,Z1]at r0 r1 r2 r3 r4 r5 r6;have x0:=hsX.res.cell0 0 (by simp);have v0:=hsX.res.frozen0 0 (by simp);have x1:=hsX.res.cell0 1 (by simp);have v1:=hsX.res.frozen0 1 (by simp);have x2:=hsX.res.cell0 2 (by simp);have v2:=hsX.res.frozen0 2 (by simp);have x3:=hsX.res.cell0 3 (by simp);have v3:=hsX.res.frozen0 3 (by simp);have x4:=hsX.res.cell0 4 (by simp);have v4:=hsX.res.frozen0 4 (by simp);have x5:=hsX.res.cell0 5 (by simp);have v5:=hsX.res.frozen0 5 (by simp);have x6:=hsX.res.cell0 6 (by simp);have v6:=hsX.res.frozen0 6 (by simp);simp only[Z0,Z1]at x0 x1 x2 x3 x4 x5 x6;clear hsX;go_wp2_with fail;clear r0 r1 r2 r3 r4 r5 r6;have p0:=HSX.out.res.ax 0 (by simp) (.string (aa ([])));have r0:=p0.cell0 0 (by simp);have p1:=p0.ax 1 (by simp) (.int .i64 4);have r1:=p1.cell0 1 (by simp);have p2:=p1.ax 2 (by simp) (.int .i64 (st.at_:Nat));have r2:=p2.cell0 2 (by simp);have p3:=p2.ax 3 (by simp) (.int .i64 ((st2.at_:Int) - (st.at_:Int)));have r3:=p3.cell0 3 (by simp);have p4:=p3.ax 4 (by simp) (.int .i64 (1));have r4:=p4.cell0 4 (by simp);have p5:=p4.ax 5 (by simp) (.string (aa ([])));have r5:=p5.cell0 5 (by simp);have p6:=p5.ax 6 (by simp) (.slice g4 nds.len c4);have r6:=p6.cell0 6 (by simp);simp only[Z2,Z3,Z0,Z1]at r0 r1 r2 r3 r4 r5 r6;have hfin:=HSX.out.result (.string (aa ([]))) (.int .i64 4) (.int .i64 (st.at_:Nat)) (.int .i64 ((st2.at_:Int) - (st.at_:Int))) (.int .i64 (1)) (.string (aa ([]))) (.slice g4 nds.len c4);clear p0 p1 p2 p3 p4 p5 p6;refine bodyPost_ret (v:= .agg #[.string (aa ([])),.int .i64 4,.int .i64 (st.at_:Nat),.int .i64 ((st2.at_:Int) - (st.at_:Int)),.int .i64 (1),.string (aa ([])),.slice g4 nds.len c4]) (by simp[results,Tryz.results30,go_sem,r0,r1,r2,r3,r4,r5,r6];first|done|rfl) rfl ?_;refine⟨hfin.1,?_⟩;rw[HO.out];refine⟨⟨_,_,rfl,?_,HK4.out.nodup⟩,hfin.2.1,⟨hatA,HNX.out⟩,n4,?_,HNN.out⟩
     ·rw[HSZ.out];refine((HK4.out.an (fun k h1 h2=>HMM.out k (by have:=HSB.out;omega) (by have:=HSB.out;omega) W X HWW.out HXW.out _ _ _ _ _ _ _ _)).low (Nat.le_of_lt HSB.out.1)).nd _ _ _ _ _ _
     ·exact HN4.out.an (HMM.out m hnbm (by omega) W X HWW.out HXW.out _ _ _ _ _ _ _ _)
end
section
variable{P:Program}{md:Region.Mode}{ops:Array Oper}{Q:Exit→Act→World→Prop}{S:World→Prop}
theorem bQ{i:Nat}{oi:Oper}{v:Value}{d:Option Tmp}{fuel:Nat}{listed:Array Bool}{a:Act}{w:World}(hi:ops[i]? =some oi)(hd:oi.dst=d)
  (hs:Region.noSelect ops=true)(hf:Region.free md ops listed i=true)(hr:(Region.ready md ops listed).contains i=true)
  (hQ:∀c a w,Q (.panic c) (a.put d v) w→Q (.panic c) a w)(hy:YieldsIf P ops S oi v a)(hS:S w)
  (h:wpAnyH P md ops Q S fuel (listed.setIfInBounds i true) (a.put d v) w):wpAnyH P md ops Q S (fuel+1) listed a w:=by
 subst hd;exact wpAnyH_take hi hs hf hr hQ hy hS h
end
end Go.Proofs.YtlomecfhobehnaaGreatDoor
