import Derived.OpenShut
import Derived.WideKeyEntry
import Derived.Test.YtlomecfhobehnaaGreatDoorMgFixSets6
set_option linter.unusedVariables false
set_option linter.unusedSimpArgs false
set_option maxRecDepth 100000
set_option maxHeartbeats 1000000
namespace Go.Proofs.YtlomecfhobehnaaGreatDoor
open Lib (hid)
section
open Go.RowKit
open Rd
namespace Rd
theorem Rdr.fQ{w:World}{rb xb k:Nat}{R:List Tok}{E:Nat}(h:Rdr w rb R E)(hx:rb < xb)(v:Value):Rdr (w.setCell ⟨xb,k,none⟩ v) rb R E:=by
 obtain⟨a,c,h1,h2,h3⟩:=h;have hh:∀b,b≤rb→(w.setCell ⟨xb,k,none⟩ v).heap[b]? =w.heap[b]? :=fun b hb=>Below.heap_setCell w ⟨xb,k,none⟩ v b (by show b≠xb;omega)
 refine⟨a,c,h1.of_heap (hh rb (Z5 _)),h2,?_⟩;rcases h3 with h|⟨g,off,e1,e2,e3⟩
 ·exact .inl h
 ·refine .inr ⟨g,off,e1,e2,fun j hj=> ?_⟩;have hb:=hh g (Nat.le_of_lt e2);exact⟨(World.cell?_of_block (a:=⟨g,off+j * 2,none⟩) hb).trans (e3 j hj).1,(World.cell?_of_block (a:=⟨g,off+j * 2+1,none⟩) hb).trans (e3 j hj).2⟩
theorem cD{w0 w:World}{rb xb k:Nat}(h:w0.grownBy w (some rb))(hx:w0.heap.size≤xb)(v:Value):w0.grownBy (w.setCell ⟨xb,k,none⟩ v) (some rb):=
 ⟨h.os,h.tape,h.output,by rw[World.size_setCell];exact h.size,fun i hi hne=>(Below.heap_setCell w ⟨xb,k,none⟩ v i (by show i≠xb;omega)).trans (h.block i hi hne)⟩
theorem Bad.up{w0 w:World}{rb:Nat}{e:Ending}{w':World}(hg:w0.grownBy w (some rb))(h:Bad w rb e w'):Bad w0 rb e w':=by
 obtain⟨g,en,p,h1,h2,h3,h4⟩:=h;exact⟨g,en,p,h1,h2,Nat.le_trans hg.size h3,ah hg h4⟩
end Rd
theorem A2(rb:Nat)(E:Nat)(w:World)(h:Rdr w rb [] E):
  Calls Tryz.prog 88 #[.pointer (some ⟨rb,0,none⟩)] w (Bad w rb):=by
 have HT:=hid (bG rb [] E w h);have HA:=hid (bS rb [] E w h);have hto:ak ([]:List Tok)=[]:=rfl;rw[hto]at HT;generalize Ex.dP E []=at_ at *
 have hF:=dw rb 3 at_ w;unfold aC at hF;have HF:=hid hF;unfold Bad aC;clear h hto hF;go_enter Tryz.func88,Tryz.ntmps88;go_wp2_with fail;refine HT.out.mono ?_;rintro e w1 ⟨rfl,rfl⟩;go_wp2_with fail;refine HA.out.mono ?_;rintro e w2 ⟨rfl,rfl⟩;go_wp2_with fail;refine HF.out.mono ?_;rintro e w3 ⟨rfl,h1,h2⟩;go_wp2_with fail;exact⟨rfl,_,3,at_,rfl,h1,Z5 _,ar h2 _⟩
def av:Tm.Rl→Nat×Tm.Wd×Tm.Wd
 | .none=>(0,[],[])
 | .size f=>(1,f,[])
 | .count f=>(2,f,[])
 | .check f l=>(3,f,l)
structure C10 where
 c0:Value
 c1:Value
 c2:Value
 c3:Value
 c4:Value
 c5:Value
 c6:Value
 c7:Value
 c8:Value
 c12:Value
def C10.row(c:C10)(r:Nat)(f l:Tm.Wd):List Value:=[c.c0,c.c1,c.c2,c.c3,c.c4,c.c5,c.c6,c.c7,c.c8,.int .i64 (r:Nat),.string (aa f),.string (aa l),c.c12]
structure fq(w0 w:World)(rb xb E:Nat)(R:List Rd.Tok)(c:C10)(r:Nat)(f l:Tm.Wd):Prop where
 gr:w0.grownBy w (some rb)
 lo:w0.heap.size≤xb
 lt:rb < xb
 rd:Rdr w rb R E
 row:ad w xb 0 70 (c.row r f l)
section
variable{w0 w w':World}{rb xb E r:Nat}{R R':List Rd.Tok}{c:C10}{f l:Tm.Wd}
theorem fq.move(h:fq w0 w rb xb E R c r f l)(hr:Rdr w' rb R' E)(hg:w.grownBy w' (some rb)):fq w0 w' rb xb E R' c r f l:=
 ⟨ah h.gr hg,h.lo,h.lt,hr,h.row.of_heap (hg.block xb h.row.lt (fun e=>by injection e with e;have:=h.lt;omega))⟩
theorem fq.Gr(h:fq w0 w rb xb E R c r f l)(v:Nat):fq w0 (w.setCell ⟨xb,9,none⟩ (.int .i64 (v:Nat))) rb xb E R c v f l:=
 ⟨cD h.gr h.lo _,h.lo,h.lt,h.rd.fQ h.lt _,h.row.aw 9 (by simp[C10.row]) _⟩
theorem fq.Da(h:fq w0 w rb xb E R c r f l)(v:Tm.Wd):fq w0 (w.setCell ⟨xb,10,none⟩ (.string (aa v))) rb xb E R c r v l:=
 ⟨cD h.gr h.lo _,h.lo,h.lt,h.rd.fQ h.lt _,h.row.aw 10 (by simp[C10.row]) _⟩
theorem fq.F5(h:fq w0 w rb xb E R c r f l)(v:Tm.Wd):fq w0 (w.setCell ⟨xb,11,none⟩ (.string (aa v))) rb xb E R c r f v:=
 ⟨cD h.gr h.lo _,h.lo,h.lt,h.rd.fQ h.lt _,h.row.aw 11 (by simp[C10.row]) _⟩
theorem fq.cells(h:fq w0 w rb xb E R c r f l):w.cell? ⟨xb,9,none⟩=some (.int .i64 (r:Nat))∧w.cell? ⟨xb,10,none⟩=some (.string (aa f))∧w.cell? ⟨xb,11,none⟩=some (.string (aa l))∧w.frozen? ⟨xb,9,none⟩=false∧w.frozen? ⟨xb,10,none⟩=false∧w.frozen? ⟨xb,11,none⟩=false:=
 ⟨h.row.cell0 9 (by simp[C10.row]),h.row.cell0 10 (by simp[C10.row]),h.row.cell0 11 (by simp[C10.row]),h.row.frozen0 9 (by simp[C10.row]),h.row.frozen0 10 (by simp[C10.row]),h.row.frozen0 11 (by simp[C10.row])⟩
end
theorem A4(w0 w:World)(rb xb E:Nat)(t:Rd.Tok)(R1:List Rd.Tok)(c:C10)(st:fq w0 w rb xb E (t::R1) c 0 [] [])(ht:t.1=Tm.dA)(hsz:(Tm.ak R1).length≤100000):
  Calls Tryz.prog 114 #[.pointer (some ⟨rb,0,none⟩),.pointer (some ⟨xb,0,none⟩)] w fun e w'=>(∃u R2,R1=u::R2∧Tm.aN u.1=true∧e= .returned (.tuple #[])∧fq w0 w' rb xb E R2 c 1 u.1 [])∨(Tm.aN (Tm.ak R1)=false∧Bad w0 rb e w'):=by
 have HA:=hid (bS rb (t::R1) E w st.rd);have hP:=dX rb t R1 E w st.rd (by rw[ht];decide);rw[ht]at hP;have HP:=hid hP;have q1:(Tm.dA==[115,105,122,101])=true:=by decide
 have q2:(Tm.dA==[99,111,117,110,116])=false:=by decide
 have HST:=hid st;have HSZ:=hid hsz;generalize Ex.dP E (t::R1)=at_ at *
 clear st ht hP hsz;go_enter Tryz.func114,Tryz.ntmps114;go_wp2_with fail;refine HA.out.mono ?_;rintro e w1 ⟨rfl,rfl⟩;go_wp2_with fail;refine HP.out.mono ?_;rintro e w2 ⟨rfl,hr2,hg2⟩;have HS2:=hid (HST.out.move hr2 hg2);obtain⟨k9,k10,k11,f9,f10,f11⟩:=HS2.out.cells;clear hr2 hg2 HP HA HST k10 k11 f10 f11;go_wp2_with fail;have HS3:=hid (HS2.out.Gr 1)
 by_cases hn:Tm.aN (Tm.ak R1)=true
 ·obtain⟨u,R2,rfl⟩:∃u R2,R1=u::R2:=by
   cases R1 with
   |nil=>exact absurd hn (by decide)
   |cons u R2=>exact⟨u,R2,rfl⟩
  refine(gW rb u R2 E _ HS3.out.rd hn).mono ?_;rintro e w4 ⟨rfl,hr4,hg4⟩;have HS4:=hid (HS3.out.move hr4 hg4);obtain⟨k9,k10,k11,f9,f10,f11⟩:=HS4.out.cells;have HS5:=hid (HS4.out.Da u.1);obtain⟨m9,m10,m11,_⟩:=HS5.out.cells;have HN:=hid hn;clear hr4 hg4 HS2 HS3 hn k11 f11;go_wp2_with fail
  go_end0
  exact .inl ⟨u,R2,rfl,HN.out,rfl,HS5.out⟩
 ·have hn2:Tm.aN (Tm.ak R1)=false:=by simpa using hn
  have hx:=jM rb R1 E _ HS3.out.rd hn2 HSZ.out;have hb:∀e w',Bad (w2.setCell ⟨xb,9,none⟩ (.int .i64 1)) rb e w'→Bad w0 rb e w':=fun e w' h=>Bad.up HS3.out.gr h
  have HX:=hid (hx.mono hb);have HN:=hid hn2;unfold Bad aC at HX;clear hn hn2 hx hb;refine HX.out.mono ?_;rintro e w4 ⟨g,en,p,rfl,h1,h2,h3⟩;go_wp2_with fail;exact⟨rfl,.inr ⟨HN.out,g,en,p,rfl,h1,h2,h3⟩⟩
theorem xK(w0 w:World)(rb xb E:Nat)(t:Rd.Tok)(R1:List Rd.Tok)(c:C10)(st:fq w0 w rb xb E (t::R1) c 0 [] [])(ht:t.1=Tm.cu)(hsz:(Tm.ak R1).length≤100000):
  Calls Tryz.prog 114 #[.pointer (some ⟨rb,0,none⟩),.pointer (some ⟨xb,0,none⟩)] w fun e w'=>(∃u R2,R1=u::R2∧Tm.aN u.1=true∧e= .returned (.tuple #[])∧fq w0 w' rb xb E R2 c 2 u.1 [])∨(Tm.aN (Tm.ak R1)=false∧Bad w0 rb e w'):=by
 have HA:=hid (bS rb (t::R1) E w st.rd);have hP:=dX rb t R1 E w st.rd (by rw[ht];decide);rw[ht]at hP;have HP:=hid hP;have q1:(Tm.cu==[115,105,122,101])=false:=by decide
 have q2:(Tm.cu==[99,111,117,110,116])=true:=by decide
 have HST:=hid st;have HSZ:=hid hsz;generalize Ex.dP E (t::R1)=at_ at *
 clear st ht hP hsz;go_enter Tryz.func114,Tryz.ntmps114;go_wp2_with fail;refine HA.out.mono ?_;rintro e w1 ⟨rfl,rfl⟩;go_wp2_with fail;refine HP.out.mono ?_;rintro e w2 ⟨rfl,hr2,hg2⟩;have HS2:=hid (HST.out.move hr2 hg2);obtain⟨k9,k10,k11,f9,f10,f11⟩:=HS2.out.cells;clear hr2 hg2 HP HA HST k10 k11 f10 f11;go_wp2_with fail;have HS3:=hid (HS2.out.Gr 2)
 by_cases hn:Tm.aN (Tm.ak R1)=true
 ·obtain⟨u,R2,rfl⟩:∃u R2,R1=u::R2:=by
   cases R1 with
   |nil=>exact absurd hn (by decide)
   |cons u R2=>exact⟨u,R2,rfl⟩
  refine(gW rb u R2 E _ HS3.out.rd hn).mono ?_;rintro e w4 ⟨rfl,hr4,hg4⟩;have HS4:=hid (HS3.out.move hr4 hg4);obtain⟨k9,k10,k11,f9,f10,f11⟩:=HS4.out.cells;have HS5:=hid (HS4.out.Da u.1);obtain⟨m9,m10,m11,_⟩:=HS5.out.cells;have HN:=hid hn;clear hr4 hg4 HS2 HS3 hn k11 f11;go_wp2_with fail
  go_end0
  exact .inl ⟨u,R2,rfl,HN.out,rfl,HS5.out⟩
 ·have hn2:Tm.aN (Tm.ak R1)=false:=by simpa using hn
  have hx:=jM rb R1 E _ HS3.out.rd hn2 HSZ.out;have hb:∀e w',Bad (w2.setCell ⟨xb,9,none⟩ (.int .i64 2)) rb e w'→Bad w0 rb e w':=fun e w' h=>Bad.up HS3.out.gr h
  have HX:=hid (hx.mono hb);have HN:=hid hn2;unfold Bad aC at HX;clear hn hn2 hx hb;refine HX.out.mono ?_;rintro e w4 ⟨g,en,p,rfl,h1,h2,h3⟩;go_wp2_with fail;exact⟨rfl,.inr ⟨HN.out,g,en,p,rfl,h1,h2,h3⟩⟩
theorem xL(w0 w:World)(rb xb E:Nat)(t:Rd.Tok)(R1:List Rd.Tok)(c:C10)(st:fq w0 w rb xb E (t::R1) c 0 [] [])(ht:t.1=Tm.bL)(hsz:∀u∈R1,u.1.length≤100000):
  Calls Tryz.prog 114 #[.pointer (some ⟨rb,0,none⟩),.pointer (some ⟨xb,0,none⟩)] w fun e w'=>(∃l R3,Tm.dS (t::R1) (.check (Tm.ak R1) l) R3∧e= .returned (.tuple #[])∧fq w0 w' rb xb E R3 c 3 (Tm.ak R1) l)∨((∀r R,¬Tm.dS (t::R1) r R)∧Bad w0 rb e w'):=by
 have HTW:=hid ht;have HA:=hid (bS rb (t::R1) E w st.rd);have hP:=dX rb t R1 E w st.rd (by rw[ht];decide);rw[ht]at hP;have HP:=hid hP;have q1:(Tm.bL==[115,105,122,101])=false:=by decide
 have q2:(Tm.bL==[99,111,117,110,116])=false:=by decide
 have q3:(Tm.bL==[99,104,101,99,107])=true:=by decide
 have HST:=hid st;have HSZ:=hid hsz;have hnot:∀(r:Tm.Rl) (R:List Rd.Tok),Tm.dS (t::R1) r R→∃u R2,R1=u::R2∧Tm.aN u.1=true∧((Tm.ak R2=[59])∨Tm.aN (Tm.ak R2)=true):=by
  intro r R h;cases h with
  |size h1=>rw[ht]at h1;exact absurd h1 (by decide)
  |count h1=>rw[ht]at h1;exact absurd h1 (by decide)
  |eJ _ h2 h3=>exact⟨_,_,rfl,h2,.inl h3⟩
  |eK _ h2 _ h4=>exact⟨_,_,rfl,h2,.inr h4⟩
 have HNOT:=hid hnot;generalize Ex.dP E (t::R1)=at_ at *
 clear st ht hP hsz hnot;go_enter Tryz.func114,Tryz.ntmps114;go_wp2_with fail;refine HA.out.mono ?_;rintro e w1 ⟨rfl,rfl⟩;go_wp2_with fail;refine HP.out.mono ?_;rintro e w2 ⟨rfl,hr2,hg2⟩;have HS2:=hid (HST.out.move hr2 hg2);obtain⟨k9,k10,k11,f9,f10,f11⟩:=HS2.out.cells;clear hr2 hg2 HP HA HST k10 k11 f10 f11;go_wp2_with fail;have HS3:=hid (HS2.out.Gr 3)
 by_cases hn:Tm.aN (Tm.ak R1)=true
 ·obtain⟨u,R2,rfl⟩:∃u R2,R1=u::R2:=by
   cases R1 with
   |nil=>exact absurd hn (by decide)
   |cons u R2=>exact⟨u,R2,rfl⟩
  refine(gW rb u R2 E _ HS3.out.rd hn).mono ?_;rintro e w4 ⟨rfl,hr4,hg4⟩;have HS4:=hid (HS3.out.move hr4 hg4);obtain⟨k9,k10,k11,f9,f10,f11⟩:=HS4.out.cells;have HS5:=hid (HS4.out.Da u.1);obtain⟨m9,m10,m11,_,_,g11⟩:=HS5.out.cells;have HS6:=hid (HS5.out.F5 u.1);have HT6:=hid (bG rb R2 E _ HS6.out.rd);rw[show ak R2=Tm.ak R2 by cases R2 <;> rfl]at HT6;have HN:=hid hn;clear hr4 hg4 HS2 HS3 HS4 HS5 hn f11;go_wp2_with fail;refine HT6.out.mono ?_;rintro e w6 ⟨rfl,rfl⟩
  by_cases hsc:Tm.ak R2=[59]
  ·have n1:(Tm.ak R2==[59])=true:=by rw[beq_iff_eq];exact hsc
   have n2:(Tm.ak R2 !=[59])=false:=by rw[bne,n1];rfl
   have HSC:=hid hsc;clear hsc;go_wp2_with fail
   go_end0
   exact .inl ⟨u.1,R2,.eJ HTW.out HN.out HSC.out,rfl,HS6.out⟩
  ·have n1:(Tm.ak R2==[59])=false:=by rw[Z8];exact hsc
   have n2:(Tm.ak R2 !=[59])=true:=by rw[bne,n1];rfl
   have HSC:=hid hsc;clear hsc;go_wp2_with fail
   by_cases hn2:Tm.aN (Tm.ak R2)=true
   ·obtain⟨v,R3,rfl⟩:∃v R3,R2=v::R3:=by
     cases R2 with
     |nil=>exact absurd hn2 (by decide)
     |cons v R3=>exact⟨v,R3,rfl⟩
    refine(gW rb v R3 E _ HS6.out.rd hn2).mono ?_;rintro e w7 ⟨rfl,hr7,hg7⟩;have HS7:=hid (HS6.out.move hr7 hg7);obtain⟨p9,p10,p11,_,_,e11⟩:=HS7.out.cells;have HS8:=hid (HS7.out.F5 v.1);have HN2:=hid hn2;clear hr7 hg7 HS6 HS7 hn2;go_wp2_with fail
    go_end0
    exact .inl ⟨v.1,R3,.eK HTW.out HN.out HSC.out HN2.out,rfl,HS8.out⟩
   ·have hn3:Tm.aN (Tm.ak R2)=false:=by simpa using hn2
    have hx:=jM rb R2 E _ HS6.out.rd hn3 (by
     cases R2 with
     |nil=>simp[Tm.ak]
     |cons v R3=>exact HSZ.out v (by simp))
    have HX:=hid (hx.mono fun e w' h=>Bad.up HS6.out.gr h);have HN3:=hid hn3;unfold Bad aC at HX;clear hn2 hn3 hx;refine HX.out.mono ?_;rintro e w7 ⟨g,en,p,rfl,h1,h2,h3⟩;go_wp2_with fail;refine⟨rfl,.inr ⟨?_,g,en,p,rfl,h1,h2,h3⟩⟩;intro r R h;obtain⟨u',R2',e1,h4,h5⟩:=HNOT.out r R h;cases e1;rcases h5 with h5|h5
    ·exact HSC.out h5
    ·rw[HN3.out]at h5;cases h5
 ·have hn2:Tm.aN (Tm.ak R1)=false:=by simpa using hn
  have hx:=jM rb R1 E _ HS3.out.rd hn2 (by
   cases R1 with
   |nil=>simp[Tm.ak]
   |cons u R2=>exact HSZ.out u (by simp))
  have hb:∀e w',Bad (w2.setCell ⟨xb,9,none⟩ (.int .i64 3)) rb e w'→Bad w0 rb e w':=fun e w' h=>Bad.up HS3.out.gr h
  have HX:=hid (hx.mono hb);have HN:=hid hn2;unfold Bad aC at HX;clear hn hn2 hx hb;refine HX.out.mono ?_;rintro e w4 ⟨g,en,p,rfl,h1,h2,h3⟩;go_wp2_with fail;refine⟨rfl,.inr ⟨?_,g,en,p,rfl,h1,h2,h3⟩⟩;intro r R h;obtain⟨u,R2,rfl,h4,_⟩:=HNOT.out r R h;have:=HN.out;rw[show Tm.ak (u::R2)=u.1 from rfl,h4]at this;cases this
theorem A5(w0 w:World)(rb xb E:Nat)(T:List Rd.Tok)(c:C10)(st:fq w0 w rb xb E T c 0 [] [])(hne:∀t∈T,t.1≠[])(h1:Tm.ak T≠Tm.dA)(h2:Tm.ak T≠Tm.cu)(h3:Tm.ak T≠Tm.bL):
  Calls Tryz.prog 114 #[.pointer (some ⟨rb,0,none⟩),.pointer (some ⟨xb,0,none⟩)] w fun e w'=>(∀r R,¬Tm.dS T r R)∧Bad w0 rb e w':=by
 have hnot:∀r R,¬Tm.dS T r R:=by
  intro r R h;cases h with
  |size g=>exact h1 g
  |count g=>exact h2 g
  |eJ g=>exact h3 g
  |eK g=>exact h3 g
 have HNOT:=hid hnot;have HA:=hid (bS rb T E w st.rd);cases T with
 |nil=>
  have hx:=A2 rb E w st.rd;have HX:=hid (hx.mono fun e w' h=>Bad.up st.gr h);generalize Ex.dP E []=at_ at *
  unfold Bad aC at HX;unfold Bad aC;clear st hnot h1 h2 h3 hx hne;go_enter Tryz.func114,Tryz.ntmps114;go_wp2_with fail;refine HA.out.mono ?_;rintro e w1 ⟨rfl,rfl⟩;go_wp2_with fail;refine HX.out.mono ?_;rintro e w2 ⟨g,en,p,rfl,g1,g2,g3⟩;go_wp2_with fail;exact⟨rfl,HNOT.out,g,en,p,rfl,g1,g2,g3⟩
 |cons t R1=>
  have hP:=dX rb t R1 E w st.rd (hne t (by simp));have HP:=hid hP;have q1:(t.1==[115,105,122,101])=false:=by rw[Z8];exact h1
  have q2:(t.1==[99,111,117,110,116])=false:=by rw[Z8];exact h2
  have q3:(t.1==[99,104,101,99,107])=false:=by rw[Z8];exact h3
  have HGR:=hid st.gr;generalize Ex.dP E (t::R1)=at_ at *
  have hF:=fun V=>dw rb 3 at_ V
  unfold aC at hF;have HF:=hid hF;unfold Bad aC;generalize t.1=s at *
  clear st hnot h1 h2 h3 hne hP hF;go_enter Tryz.func114,Tryz.ntmps114;go_wp2_with fail;refine HA.out.mono ?_;rintro e w1 ⟨rfl,rfl⟩;go_wp2_with fail;refine HP.out.mono ?_;rintro e w2 ⟨rfl,hr2,hg2⟩;have HG2:=hid (ah HGR.out hg2);clear hr2 hg2;go_wp2_with fail;refine(HF.out _).mono ?_;rintro e w3 ⟨rfl,g1,g2⟩;go_wp2_with fail;exact⟨rfl,HNOT.out,_,3,at_,rfl,g1,HG2.out.size,ah HG2.out (ar g2 _)⟩
def fD(T:List Rd.Tok):Prop:=∀t∈T,t.1≠[]∧t.1.length≤100000
theorem fD.suf{T R:List Rd.Tok}(h:fD T)(hs:R <:+ T):fD R:=fun t ht=>h t (hs.subset ht)
theorem fD.text{T:List Rd.Tok}(h:fD T):(Tm.ak T).length≤100000:=by
 cases T with
 |nil=>simp[Tm.ak]
 |cons t T=>exact(h t (by simp)).2
theorem Db(w0 w:World)(rb xb E:Nat)(T:List Rd.Tok)(c:C10)(st:fq w0 w rb xb E T c 0 [] [])(hT:fD T):
  Calls Tryz.prog 114 #[.pointer (some ⟨rb,0,none⟩),.pointer (some ⟨xb,0,none⟩)] w fun e w'=>(∃r R,Tm.dS T r R∧e= .returned (.tuple #[])∧fq w0 w' rb xb E R c (av r).1 (av r).2.1 (av r).2.2)∨((∀r R,¬Tm.dS T r R)∧Bad w0 rb e w'):=by
 by_cases h1:Tm.ak T=Tm.dA
 ·cases T with
  |nil=>exact absurd h1 (by decide)
  |cons t R1=>
   refine(A4 w0 w rb xb E t R1 c st h1 (hT.suf (List.suffix_cons _ _)).text).mono ?_;rintro e w' (⟨u,R2,rfl,g1,g2,g3⟩|⟨g1,g2⟩)
   ·exact .inl ⟨.size u.1,R2,.size h1 g1,g2,g3⟩
   ·refine .inr ⟨?_,g2⟩;intro r R h;cases h with
    |size _ k=>exact absurd (k.symm.trans g1) (by decide)
    |count k=>rw[show t.1=Tm.dA from h1]at k;exact absurd k (by decide)
    |eJ k=>rw[show t.1=Tm.dA from h1]at k;exact absurd k (by decide)
    |eK k=>rw[show t.1=Tm.dA from h1]at k;exact absurd k (by decide)
 ·by_cases h2:Tm.ak T=Tm.cu
  ·cases T with
   |nil=>exact absurd h2 (by decide)
   |cons t R1=>
    refine(xK w0 w rb xb E t R1 c st h2 (hT.suf (List.suffix_cons _ _)).text).mono ?_;rintro e w' (⟨u,R2,rfl,g1,g2,g3⟩|⟨g1,g2⟩)
    ·exact .inl ⟨.count u.1,R2,.count h2 g1,g2,g3⟩
    ·refine .inr ⟨?_,g2⟩;intro r R h;cases h with
     |count _ k=>exact absurd (k.symm.trans g1) (by decide)
     |size k=>rw[show t.1=Tm.cu from h2]at k;exact absurd k (by decide)
     |eJ k=>rw[show t.1=Tm.cu from h2]at k;exact absurd k (by decide)
     |eK k=>rw[show t.1=Tm.cu from h2]at k;exact absurd k (by decide)
  ·by_cases h3:Tm.ak T=Tm.bL
   ·cases T with
    |nil=>exact absurd h3 (by decide)
    |cons t R1=>
     refine(xL w0 w rb xb E t R1 c st h3 (fun u hu=>(hT u (by simp[hu])).2)).mono ?_;rintro e w' (⟨l,R3,g1,g2,g3⟩|g)
     ·exact .inl ⟨_,R3,g1,g2,g3⟩
     ·exact .inr g
   ·exact(A5 w0 w rb xb E T c st (fun t ht=>(hT t ht).1) h1 h2 h3).mono fun e w' h=> .inr h
theorem fE(w:World)(rb E:Nat)(T:List Rd.Tok)(he:Env w rb)(hr:Rdr w rb T E)(hT:fD T):
  Calls Tryz.prog 113 #[.pointer (some ⟨rb,0,none⟩),.int .i64 0] w fun e w'=>(∃x R b,Tm.eI E T x R∧e= .returned (.pointer (some ⟨b,0,none⟩))∧IsX w' rb b x∧Rdr w' rb R E∧w.grownBy w' (some rb))∨((∀x R,¬Tm.eI E T x R)∧Bad w rb e w'):=by
 obtain⟨o,ho⟩:=Ex.total (num:=Num.numOf) (E:=E) T.length T 0 (Z5 _) (fun t ht=>(hT t ht).1) (by omega) 0 (by omega);have h:=CU ho rb (fun t ht=>(hT t ht).2) w he hr;refine Calls.mono h ?_;intro e w' hp;cases o with
 |ok x R=>
  obtain⟨b,h1,h2,h3,h4⟩:=hp;exact .inl ⟨x,R,b,ho,h1,h2,h3,h4⟩
 |bad en p=>
  obtain⟨g,h1,h2,h3,h4⟩:=hp;refine .inr ⟨?_,g,en,p,h1,h2,h3,h4⟩;intro x R h9;have:=Tm.Par.det ho _ h9;cases this
theorem dB(w:World)(rb E:Nat)(T:List Rd.Tok)(m:Tm.Wd)(hm:m≠[])(hr:Rdr w rb T E):
  Calls Tryz.prog 53 #[.pointer (some ⟨rb,0,none⟩),.string (aa m)] w fun e w'=>(∃t R,T=t::R∧t.1=m∧e= .returned (.tuple #[])∧Rdr w' rb R E∧w.grownBy w' (some rb))∨(Tm.ak T≠m∧Bad w rb e w'):=by
 have hto:ak T=Tm.ak T:=by cases T <;> rfl
 by_cases h:Tm.ak T=m
 ·cases T with
  |nil=>exact absurd h.symm hm
  |cons t R=>
   have h2:t.1=m:=h;subst h2;exact(oR rb t R E w hr hm).mono fun e w' h=> .inl ⟨t,R,rfl,rfl,h⟩
 ·refine(zv rb T E m w hr hm (by rw[hto];exact h)).mono ?_;rintro e w' ⟨h1,h2,h3⟩;exact .inr ⟨h,w.heap.size,3,_,h1,h2,Z5 _,ar h3 _⟩
theorem lC(w:World)(rb E:Nat)(T:List Rd.Tok)(hr:Rdr w rb T E)(hT:fD T):
  Calls Tryz.prog 54 #[.pointer (some ⟨rb,0,none⟩)] w fun e w'=>(∃u R,T=u::R∧Tm.aN u.1=true∧e= .returned (.string (aa u.1))∧Rdr w' rb R E∧w.grownBy w' (some rb))∨(Tm.aN (Tm.ak T)=false∧Bad w rb e w'):=by
 by_cases h:Tm.aN (Tm.ak T)=true
 ·cases T with
  |nil=>exact absurd h (by decide)
  |cons u R=>exact(gW rb u R E w hr h).mono fun e w' g=> .inl ⟨u,R,rfl,h,g⟩
 ·have h2:Tm.aN (Tm.ak T)=false:=by simpa using h
  exact(jM rb T E w hr h2 hT.text).mono fun e w' g=> .inr ⟨h2,g⟩
end
section
namespace Tm
open Ex
variable{E d:Nat}
def mH(E d:Nat)(T:List Tok)(l:Its)(R:List Tok):Prop:=∃b T2,T=b::T2∧b.1=[123]∧d≤8∧Blk E d 0 T2 l R
inductive gX(E d:Nat):List Tok→Its→List Tok→Prop where
 |hd {T R:List Tok} {h:Hd}:HdP E T h R→gX E d T (.cons h .nil) R
 |when {t:Tok} {T U R:List Tok} {c:X} {body:Its}:t.1=dz→eI E T c U→mH E (d+1) U body R→gX E d (t::T) (.when t.2 c body .nil) R
theorem sY{t:Tok}{T R:List Tok}{a:Hd}(h:HdP E (t::T) a R):aN (ak T)=true:=by
 cases h with
 |mk h1 h2 h3 h4=>exact h2
theorem Gs{t:Tok}{T R:List Tok}{a:Hd}(h:HdP E (t::T) a R):(kindOf t.1).isSome=true∨t.1=cC∨aN t.1=true:=by
 cases h with
 |mk h1 h2 h3 h4=>
  cases h1 with
  |scalar h=>exact .inl h
  |bytes h=>exact .inr (.inl h)
  |struct h=>exact .inr (.inr h)
theorem ph:kindOf cC=none∧aN cC=false:=by decide
theorem Dc{t n:Tok}{T R:List Tok}{a:Hd}(h:HdP E (t::n::T) a R)(ht:t.1=cC):ak T=[91]:=by
 cases h with
 |mk h1 h2 h3 h4=>
  cases h1 with
  |scalar h=>rw[ht,ph.1]at h;cases h
  |struct h=>rw[ht,ph.2]at h;cases h
  |bytes h=>
   cases h3 with
   |cnt hc hb=>
    cases hc with
    |no=>exact absurd rfl (hb rfl)
    |yes h5 h6 h7=>exact h5
theorem iB{t n o:Tok}{T R:List Tok}{a:Hd}(h:HdP E (t::n::o::T) a R)(ho:o.1=[91]):∃x c R',eI E T x (c::R')∧c.1=[93]∧ak R'=[59]:=by
 cases h with
 |mk h1 h2 h3 h4=>
  cases h3 with
  |cnt hc hb=>
   cases hc with
   |no h5=>exact absurd ho h5
   |yes h5 h6 h7=>exact⟨_,_,_,h6,h7,h4⟩
  |ax h5 h6=>rw[ho]at h5;exact absurd h5 (by decide)
theorem zD{t n o:Tok}{T R:List Tok}{a:Hd}(h:HdP E (t::n::o::T) a R)(ho:o.1=[61]):∃r R',dS T r R'∧ak R'=[59]:=by
 cases h with
 |mk h1 h2 h3 h4=>
  cases h3 with
  |cnt hc hb=>
   cases hc with
   |no h5=>rw[ho]at h4;exact absurd h4 (by decide)
   |yes h5 h6 h7=>rw[ho]at h5;exact absurd h5 (by decide)
  |ax h5 h6=>exact⟨_,_,h6,h4⟩
theorem zE{t n:Tok}{T R:List Tok}{a:Hd}(h:HdP E (t::n::T) a R)(h1:ak T≠[91])(h2:(kindOf t.1).isSome=true→ak T≠[61]):ak T=[59]:=by
 cases h with
 |mk h3 _ h5 h6=>
  cases h5 with
  |cnt hc hb=>
   cases hc with
   |no _=>exact h6
   |yes h7 _ _=>exact absurd h7 h1
  |ax h7 h8=>
   cases h3 with
   |scalar hk=>exact absurd h7 (h2 hk)
theorem Gt{R:List Tok}{a:Hd}(h:HdP E [] a R):False:=by cases h
theorem dq{T R:List Tok}{I:Its}(h:gX E d T I R)(ht:ak T≠dz):∃a,I= .cons a .nil∧HdP E T a R:=by
 cases h with
 |hd h=>exact⟨_,rfl,h⟩
 |when h=>exact absurd h ht
theorem uO{t:Tok}{T R:List Tok}{I:Its}(h:gX E d (t::T) I R)(ht:t.1=dz):∃c U body,eI E T c U∧mH E (d+1) U body R:=by
 cases h with
 |hd h=>exact absurd ht h.no.2
 |when _ h2 h3=>exact⟨_,_,_,h2,h3⟩
theorem mH.suf{T R:List Tok}{l:Its}(h:mH E d T l R):R <:+ T∧R.length < T.length:=by
 obtain⟨b,T2,rfl,h1,h2,h3⟩:=h;exact⟨cH h3.suf.1,by have:=h3.suf.2;simp;omega⟩
theorem gX.suf{T R:List Tok}{I:Its}(h:gX E d T I R):R <:+ T∧R.length < T.length:=by
 cases h with
 |hd h=>exact h.suf
 |when h1 h2 h3=>exact⟨cH (h3.suf.1.trans h2.suf.1),by have:=h3.suf.2;have:=h2.suf.2;simp;omega⟩
theorem mH.det{T R R':List Tok}{l l':Its}(h:mH E d T l R)(h':mH E d T l' R'):l=l'∧R=R':=by
 obtain⟨b,T2,rfl,h1,h2,h3⟩:=h;obtain⟨b',T2',e,h1',h2',h3'⟩:=h';cases e;exact h3.det _ _ h3'
theorem gX.det{T R R':List Tok}{I I':Its}(h:gX E d T I R)(h':gX E d T I' R'):I=I'∧R=R':=by
 cases h with
 |hd h=>
  obtain⟨a,rfl,h2⟩:=dq h' h.no.2;obtain⟨rfl,rfl⟩:=h.det h2;exact⟨rfl,rfl⟩
 |when h1 h2 h3=>
  cases h' with
  |hd h=>exact absurd h1 h.no.2
  |when _ h4 h5=>
   obtain⟨rfl,rfl⟩:=eI.det h2 h4;obtain⟨rfl,rfl⟩:=h3.det h5;exact⟨rfl,rfl⟩
def Its.app:Its→Its→Its
 | .nil,m=>m
 | .cons h l,m=> .cons h (l.app m)
 | .when a c b l,m=> .when a c b (l.app m)
def Its.len:Its→Nat
 | .nil=>0
 | .cons _ l=>l.len+1
 | .when _ _ _ l=>l.len+1
theorem zF(l m:Its):(l.app m).len=l.len+m.len:=by
 induction l with
 |nil=>simp[Its.app,Its.len]
 |cons h l ih=>simp only[Its.app,Its.len,ih];omega
 |when a c b l _ ih=>simp only[Its.app,Its.len,ih];omega
theorem eT(l:Its):l.app .nil=l:=by
 induction l with
 |nil=>rfl
 |cons h l ih=>rw[Its.app,ih]
 |when a c b l _ ih=>rw[Its.app,ih]
theorem dF(l m k:Its):(l.app m).app k=l.app (m.app k):=by
 induction l with
 |nil=>rfl
 |cons h l ih=>simp only[Its.app,ih]
 |when a c b l _ ih=>simp only[Its.app,ih]
theorem gX.one{T R:List Tok}{I:Its}(h:gX E d T I R):I.len=1:=by
 cases h <;> rfl
theorem Dd{n:Nat}{T R R2:List Tok}{I l:Its}(hn:n < 16)(h:gX E d T I R)(h2:Blk E d (n+1) R l R2):Blk E d n T (I.app l) R2:=by
 cases h with
 |hd h=>exact .item hn h h2
 |when h1 h3 h4=>
  obtain⟨b,T2,rfl,h5,h6,h7⟩:=h4;exact .when hn h1 h3 h5 h6 h7 h2
theorem mJ{n:Nat}{T R2:List Tok}{L:Its}(h:Blk E d n T L R2):(ak T=[125]∧L= .nil)∨(ak T≠[125]∧n < 16∧∃I R l,gX E d T I R∧Blk E d (n+1) R l R2∧L=I.app l):=by
 cases h with
 |fin h=>exact .inl ⟨h,rfl⟩
 |item h1 h2 h3=>exact .inr ⟨h2.no.1,h1,_,_,_,.hd h2,h3,rfl⟩
 |when h1 h2 h3 h4 h5 h6 h7=>exact .inr ⟨by intro e;exact absurd (h2.symm.trans e) (by decide),h1,_,_,_,.when h2 h3 ⟨_,_,rfl,h4,h5,h6⟩,h7,rfl⟩
end Tm
end
section
open Go.RowKit
open Rd
namespace Tm
def aI:Knd→Nat
 | .scalar _=>1
 | .bytes=>2
 | .struct _=>3
def bu:Knd→Wd
 | .struct t=>t
 |_=>[]
def bo(k:Knd):Nat×Nat×Bool:=match k with
 | .scalar w=>cV w
 |_=>(0,0,false)
def ba(h:Hd):Bool:=match h.k,h.cnt with
 | .bytes,_=>false
 |_,some _=>true
 |_,none=>false
def pj(w:World)(rb:Nat):Option Ex.X→Value→Prop
 |none,v=>v= .pointer none
 |some x,v=>∃b,v= .pointer (some ⟨b,0,none⟩)∧IsX w rb b x
def ag(h:Hd)(cv:Value):List Value:=
 [.int .i64 (aI h.k:Nat),.int .i64 (h.at_:Nat),.string (aa h.name),.string (aa (bu h.k)),.int .i64 ((bo h.k).1:Nat),.int .i64 ((bo h.k).2.1:Nat),.bool (bo h.k).2.2,.bool (ba h),cv,
  .int .i64 ((av h.ax).1:Nat),.string (aa (av h.ax).2.1),.string (aa (av h.ax).2.2),.slice none 0 0]
def au(a:Nat)(cv sv:Value):List Value:=
 [.int .i64 4,.int .i64 (a:Nat),.string (aa []),.string (aa []),.int .i64 0,.int .i64 0,.bool false,.bool false,cv,.int .i64 0,.string (aa []),.string (aa []),sv]
def Enc(w:World)(rb:Nat)(ok:Nat→Prop):Its→List Value→Prop
 | .nil,vs=>vs=[]
 | .cons h l,vs=>∃cv us,pj w rb h.cnt cv∧vs=ag h cv++us∧Enc w rb ok l us
 | .when a c b l,vs=>∃cb ga cap bs us,IsX w rb cb c∧an w (rb+1) 70 13 ga b.len cap bs∧(∀x,ga=some x→ok x.block)∧Enc w rb ok b bs∧vs=au a (.pointer (some ⟨cb,0,none⟩)) (.slice ga b.len cap)++us∧Enc w rb ok l us
theorem Enc.mono{w:World}{rb:Nat}{ok ok':Nat→Prop}(h:∀b,ok b→ok' b):∀(l:Its) (vs:List Value),Enc w rb ok l vs→Enc w rb ok' l vs
 | .nil,vs,e=>e
 | .cons a l,vs,e=>by
  obtain⟨cv,us,h1,h2,h3⟩:=e;exact⟨cv,us,h1,h2,Enc.mono h l us h3⟩
 | .when a c b l,vs,e=>by
  obtain⟨cb,ga,cap,bs,us,h1,h2,h3,h4,h5,h6⟩:=e;exact⟨cb,ga,cap,bs,us,h1,h2,fun x hx=>h _ (h3 x hx),Enc.mono h b bs h4,h5,Enc.mono h l us h6⟩
theorem Enc.grown{w w':World}{rb:Nat}{ok:Nat→Prop}(hg:w.grownBy w' (some rb)):∀(l:Its) (vs:List Value),Enc w rb ok l vs→Enc w' rb ok l vs
 | .nil,vs,e=>e
 | .cons a l,vs,e=>by
  obtain⟨cv,us,h1,h2,h3⟩:=e;refine⟨cv,us,?_,h2,Enc.grown hg l us h3⟩;cases hc:a.cnt with
  |none=>rw[hc]at h1;exact h1
  |some x=>
   rw[hc]at h1;obtain⟨b,h4,h5⟩:=h1;exact⟨b,h4,IsX.grown hg x b h5⟩
 | .when a c b l,vs,e=>by
  obtain⟨cb,ga,cap,bs,us,h1,h2,h3,h4,h5,h6⟩:=e;refine⟨cb,ga,cap,bs,us,IsX.grown hg c cb h1,h2.grown hg fun x hx e=> ?_,h3,Enc.grown hg b bs h4,h5,Enc.grown hg l us h6⟩;subst hx;have:=h2.lt.1;injection e with e
  omega
theorem aj(h:Hd)(cv:Value):(ag h cv).length=13:=rfl
theorem bf(a:Nat)(cv sv:Value):(au a cv sv).length=13:=rfl
end Tm
end
section
open Go.RowKit
open Rd
open Ex (X levels)
structure lD(w:World)(mv:Value)(N:Ex.Names)(n:Nat):Prop where
 look:∀W,Below w.heap.size w W→∀s:List UInt8,s.length≤1000→(Instr.lookup 103 mv (.string (aa s)) true).run Tryz.prog W= .ok (.tuple #[.int .i64 ((N s).getD 0),.bool (N s).isSome]) W
 rng:∀s v,N s=some v→Ex.InR v
 len:∀W,Below w.heap.size w W→(Builtin.len_ #[103] 3 #[mv]).run Tryz.prog W= .ok (.int .i64 (n:Nat)) W
def iC(w:World)(r:Option Int)(e:Ending)(w':World):Prop:=Below w.heap.size w w'∧match r with
 |some v=>e= .returned (.tuple #[.int .i64 v,.nilIface])
 |none=>∃g p,e= .returned (.tuple #[.int .i64 0,.iface 120 (.pointer (some ⟨g,0,none⟩))])∧ad w' g 0 122 [.int .i64 5,.int .i64 (p:Nat)]
def jh(w0:World)(mv:Value)(N:Ex.Names)(x:X):Prop:=∀(w:World) (rb b:Nat),Below w0.heap.size w0 w→IsX w rb b x→
 Calls Tryz.prog 94 #[.pointer (some ⟨b,0,none⟩),mv] w (iC w (Ex.ev N x))
theorem De(w0:World)(mv:Value)(N:Ex.Names)(a n:Nat):jh w0 mv N (.num a n):=by
 intro w rb b hb hx;have c0:=hx.2.cell0 0 (by simp);have c2:=hx.2.cell0 2 (by simp);simp only[Z0,Z1]at c0 c2;clear hx;go_enter Tryz.func94,Tryz.ntmps94;go_wp2_with fail;go_ret2;exact⟨Y4 _ _,rfl⟩
theorem A6(w0:World)(mv:Value)(N:Ex.Names)(n a:Nat)(s:List UInt8)(hs:s.length≤12)(hN:lD w0 mv N n):jh w0 mv N (.name a s):=by
 intro w rb b hb hx;have c0:=hx.2.cell0 0 (by simp);have c1:=hx.2.cell0 1 (by simp);have c3:=hx.2.cell0 3 (by simp);simp only[Z0,Z1]at c0 c1 c3;have hlk:=hN.look w hb s (by omega);have hev:Ex.ev N (.name a s)=N s:=rfl;rw[hev];clear hx hN hb hev;cases h:N s with
 |some v=>
  rw[h]at hlk;simp only[Option.getD_some,Option.isSome_some]at hlk;clear h;go_enter Tryz.func94,Tryz.ntmps94;go_wp2_with fail;go_ret2;exact⟨Y4 _ _,rfl⟩
 |none=>
  rw[h]at hlk;simp only[Option.getD_none,Option.isSome_none]at hlk;clear h;go_enter Tryz.func94,Tryz.ntmps94;go_wp2_with fail
  go_region
  all_goals
   go_wp2_with fail;go_ret2;exact⟨((Y4 _ w).alloc (Z5 _) _).drew,_,a,rfl,(ad.new w 122 #[.int .i64 5,.int .i64 (a:Nat)]).drew⟩
theorem A7(c:Bool)(w:World):Calls Tryz.prog 119 #[.bool c] w fun e w'=>e= .returned (.int .i64 (Ex.pd c))∧w'=w:=by
 cases c <;>
 ·go_enter Tryz.func119,Tryz.ntmps119;go_wp2_with fail;go_ret;exact⟨rfl,rfl⟩
theorem sZ(z:Int):Ex.kp z=wrap64 z:=by
 unfold Ex.kp wrap64;rw[IntKind.wrap_i64]
theorem EU(u v:Int):Ex.opv [43] u v=wrap64 (u+v):=by
 show Ex.kp (u+v)=_;exact sZ _
theorem EV(u v:Int):Ex.opv [45] u v=wrap64 (u - v):=by
 show Ex.kp (u - v)=_;exact sZ _
theorem EW(u v:Int):Ex.opv [42] u v=wrap64 (u * v):=by
 show Ex.kp (u * v)=_;exact sZ _
structure s7(w:World)(b bl br:Nat)(op:List UInt8):Prop where
 c0:w.cell? ⟨b,0,none⟩=some (.int .i64 3)
 c4:w.cell? ⟨b,4,none⟩=some (.string (aa op))
 c5:w.cell? ⟨b,5,none⟩=some (.pointer (some ⟨bl,0,none⟩))
 c6:w.cell? ⟨b,6,none⟩=some (.pointer (some ⟨br,0,none⟩))
 lt:b < w.heap.size
theorem s7.below{w w':World}{b bl br:Nat}{op:List UInt8}(h:s7 w b bl br op)(hb:Below w.heap.size w w'):s7 w' b bl br op:=
 ⟨(hb.cell (p:=⟨b,0,none⟩) h.lt).trans h.c0,(hb.cell (p:=⟨b,4,none⟩) h.lt).trans h.c4,(hb.cell (p:=⟨b,5,none⟩) h.lt).trans h.c5,(hb.cell (p:=⟨b,6,none⟩) h.lt).trans h.c6,Nat.lt_of_lt_of_le h.lt hb.size⟩
theorem nodeAt{w:World}{rb b a:Nat}{op:List UInt8}{l r:X}(h:IsX w rb b (.bin a op l r)):∃bl br,s7 w b bl br op∧IsX w rb bl l∧IsX w rb br r:=by
 obtain⟨bl,br,h1,h2,h3,h4⟩:=h;exact⟨bl,br,⟨h2.cell0 0 (by simp),h2.cell0 4 (by simp),h2.cell0 5 (by simp),h2.cell0 6 (by simp),h2.lt⟩,h3,h4⟩
theorem A8(w0:World)(mv:Value)(N:Ex.Names)(a:Nat)(op:List UInt8)(l r:X)(hl:jh w0 mv N l)(hn:Ex.ev N l=none):jh w0 mv N (.bin a op l r):=by
 intro w rb b hb hx;obtain⟨bl,br,hnode,hxl,hxr⟩:=nodeAt hx;have hL:=hl w rb bl hb hxl;rw[hn]at hL;unfold iC at hL;have HL:=hid hL;have c0:=hnode.c0;have c5:=hnode.c5;have hev:Ex.ev N (.bin a op l r)=none:=by unfold Ex.ev;rw[hn];rfl
 rw[hev];clear hx hL hxl hxr hnode hev hn hl;go_enter Tryz.func94,Tryz.ntmps94;go_wp2_with fail;refine HL.out.mono ?_;rintro e w1 ⟨hb1,g,p,rfl,hrow⟩;go_wp2_with fail;go_ret2;exact⟨hb1,g,p,rfl,hrow⟩
theorem xM(w0:World)(mv:Value)(N:Ex.Names)(a:Nat)(op:List UInt8)(l r:X)(u:Int)(hl:jh w0 mv N l)(hr:jh w0 mv N r)(hu:Ex.ev N l=some u)(hn:Ex.ev N r=none):jh w0 mv N (.bin a op l r):=by
 intro w rb b hb hx;obtain⟨bl,br,hnode,hxl,hxr⟩:=nodeAt hx;have hL:=hl w rb bl hb hxl;rw[hu]at hL;unfold iC at hL;have HL:=hid hL;have hR:∀W,Below w.heap.size w W→Calls Tryz.prog 94 #[.pointer (some ⟨br,0,none⟩),mv] W (iC W none):=fun W hW=>by
  have:=hr W rb br (hb.trans (hW.mono hb.size)) (IsX.grown (ar hW _) r br hxr);rwa[hn]at this
 unfold iC at hR;have HR:=hid hR;have HN:=hid hnode;have c0:=hnode.c0;have c5:=hnode.c5;have hev:Ex.ev N (.bin a op l r)=none:=by unfold Ex.ev;rw[hu,hn];rfl
 rw[hev];clear hx hL hxl hxr hnode hev hn hl hr hu hR;go_enter Tryz.func94,Tryz.ntmps94;go_wp2_with fail;refine HL.out.mono ?_;rintro e w1 ⟨hb1,rfl⟩;have c6:=(HN.out.below hb1).c6;have HB1:=hid hb1;clear hb1;go_wp2_with fail;refine(HR.out w1 HB1.out).mono ?_;rintro e w2 ⟨hb2,g,p,rfl,hrow⟩;go_wp2_with fail;go_ret2;exact⟨HB1.out.trans (hb2.mono HB1.out.size),g,p,rfl,hrow⟩
theorem A9(w0:World)(mv:Value)(N:Ex.Names)(a:Nat)(op:List UInt8)(l r:X)(u v:Int)(hop:Ex.aD op < 3)(hl:jh w0 mv N l)(hr:jh w0 mv N r)(hu:Ex.ev N l=some u)(hv:Ex.ev N r=some v):jh w0 mv N (.bin a op l r):=by
 intro w rb b hb hx;obtain⟨bl,br,hnode,hxl,hxr⟩:=nodeAt hx;have hL:=hl w rb bl hb hxl;rw[hu]at hL;unfold iC at hL;have HL:=hid hL;have hR:∀W,Below w.heap.size w W→Calls Tryz.prog 94 #[.pointer (some ⟨br,0,none⟩),mv] W (iC W (some v)):=fun W hW=>by
  have:=hr W rb br (hb.trans (hW.mono hb.size)) (IsX.grown (ar hW _) r br hxr);rwa[hv]at this
 unfold iC at hR;have HR:=hid hR;have HN:=hid hnode;have c0:=hnode.c0;have c5:=hnode.c5;have hev:Ex.ev N (.bin a op l r)=some (Ex.opv op u v):=by unfold Ex.ev;rw[hu,hv];rfl
 rw[hev];have HTR:=hid (fun c w=>A7 c w);have hm:op∈levels 0∨op∈levels 1∨op∈levels 2:=by
  have:=Ex.lz op hop;rcases(by omega:Ex.aD op=0∨Ex.aD op=1∨Ex.aD op=2)with h|h|h <;> rw[h]at this
  ·exact .inl this
  ·exact .inr (.inl this)
  ·exact .inr (.inr this)
 clear hx hL hxl hxr hnode hev hl hr hu hR hv hop;have hcase:op=[61,61]∨op=[33,61]∨op=[60]∨op=[62]∨op=[43]∨op=[45]∨op=[124]∨op=[42]∨op=[38]:=by
  simp only[levels,List.mem_cons,List.not_mem_nil,or_false]at hm;rcases hm with(h|h|h|h)|(h|h|h)|(h|h) <;> simp[h]
 clear hm;rcases hcase with rfl|rfl|rfl|rfl|rfl|rfl|rfl|rfl|rfl
 all_goals
  go_enter Tryz.func94,Tryz.ntmps94;go_wp2_with fail;refine HL.out.mono ?_;rintro e w1 ⟨hb1,rfl⟩;have c6:=(HN.out.below hb1).c6;have HB1:=hid hb1;clear hb1;go_wp2_with fail;refine(HR.out w1 HB1.out).mono ?_;rintro e w2 ⟨hb2,rfl⟩;have c4:=((HN.out.below HB1.out).below hb2).c4;have HB2:=hid (HB1.out.trans (hb2.mono HB1.out.size));clear hb2;go_wp2_with fail
  try(refine(HTR.out _ _).mono ?_;rintro e w3 ⟨rfl,rfl⟩;go_wp2_with fail)
  go_ret2;exact⟨HB2.out,by first|rfl|(rw[EU];rfl)|(rw[EV];rfl)|(rw[EW];rfl)⟩
theorem xN(w0:World)(mv:Value)(N:Ex.Names)(n:Nat)(hN:lD w0 mv N n):∀x:X,Ex.kc Num.numOf Num.dec x→jh w0 mv N x
 | .num a k,_=>De w0 mv N a k
 | .name a s,h=>A6 w0 mv N n a s h.2.1 hN
 | .bin a op l r,h=>by
  have hl:=xN w0 mv N n hN l h.2.1;have hr:=xN w0 mv N n hN r h.2.2;cases e1:Ex.ev N l with
  |none=>exact A8 w0 mv N a op l r hl e1
  |some u=>
   cases e2:Ex.ev N r with
   |none=>exact xM w0 mv N a op l r u hl hr e1 e2
   |some v=>exact A9 w0 mv N a op l r u v h.1 hl hr e1 e2
def nm{H:Type}(D:DataW H):Ex.Names:=fun s=>if 1000 < s.length then none else match D.atKey (.string s) .nil with
 | .lit (.int _ a)=>some a
 |_=>none
theorem A'{H:Type}{w:World}{b n:Nat}{D:DataW H}(h:w.ownsMap Tryz.prog 9 (plainElem Tryz.prog 3) b n D):∃k,k≤n∧lD w (.map (some b)) (nm D) k:=by
 obtain⟨es,clock,hb,F,hs,hD⟩:=h;have K:=Maps.string_keyed (P:=Tryz.prog) Tryz.underlying9;have hblt:b < w.heap.size:=(Array.getElem?_eq_some_iff.1 hb).1;have hlook:∀W,Below w.heap.size w W→∀s:List UInt8,s.length≤1000→(Instr.lookup 103 (.map (some b)) (.string (aa s)) true).run Tryz.prog W= .ok (.tuple #[.int .i64 ((nm D s).getD 0),.bool (nm D s).isSome]) W∧∀v,nm D s=some v→Ex.InR v:=by
  intro W hW s hsl;have hb':W.heap[b]? =some (.map es clock):=(hW.block b hblt).trans hb;have hz:(zeroValue 3).run Tryz.prog W= .ok (.int .i64 0) W:=by kernel_rfl
  have hkey:keyOf Tryz.prog 9 (.string (aa s))=some (.string s):=WideMaps.keyOf_string_mk Tryz.underlying9 (by rw[aq];unfold maxLen;omega);rcases Maps.fit_look true K Tryz.underlying103 hz hb' F hkey with⟨hrun,_,hat⟩|⟨e0,y,_,_,hrun,hRv,hat,_⟩
  ·have hn:nm D s=none:=by
    unfold nm;rw[if_neg (by omega),hD,hat .nil]
   rw[hn];exact⟨hrun,fun v e=>by cases e⟩
  ·obtain⟨a,ha,hy,hwf⟩:=plainElem_int_inv Tryz.underlying3 hRv;have hn:nm D s=some a:=by
    unfold nm;rw[if_neg (by omega),hD,hat .nil,hy]
   rw[hn];rw[ha]at hrun;refine⟨hrun,fun v e=> ?_⟩;cases e;exact bounds_i64 hwf
 refine⟨es.size,hs,fun W hW s hsl=>(hlook W hW s hsl).1,fun s v e=> ?_,fun W hW=> ?_⟩
 ·by_cases hl:1000 < s.length
  ·unfold nm at e;rw[if_pos hl]at e;cases e
  ·exact(hlook w (Y4 _ _) s (by omega)).2 v e
 ·have hb':W.heap[b]? =some (.map es clock):=(hW.block b hblt).trans hb;exact run_len_map W 103 3 b es clock (by kernel_rfl) hb'
end
section
open Go Go.RowKit Go.Maps Go.WideElems Go.ChangeMaps Go.WideMaps
def gL(P:Program)(k e:TypeId)(w:World)(b n:Nat)(S:List (List UInt8)):Prop:=
 ∃D:DataW Unit,w.ownsMap P k (plainElem P e) b n D∧IsMap D∧∀s:List UInt8,D.atKey (.string s) (.lit (.int .i64 0))= .lit (.int .i64 (if S.contains s then 1 else 0))
section
variable{P:Program}{t k e:TypeId}{w:World}{b n:Nat}{S:List (List UInt8)}
theorem zG(s:List UInt8):WideAt.IsKeyLit (.string s):=by unfold WideAt.IsKeyLit;trivial
theorem gL.made(w:World):gL P k e (w.alloc (.map #[] 0)) w.heap.size 0 []:=
 ⟨.map [],World.ownsMap_made _ _ _ _,isMap_empty,fun c=>rfl⟩
theorem gL.al{w':World}(h:gL P k e w b n S)(hh:w'.heap[b]? =w.heap[b]?):gL P k e w' b n S:=by
 obtain⟨D,⟨es,clock,hb,F,h1,h2⟩,h3⟩:=h;exact⟨D,⟨es,clock,hh.trans hb,F,h1,h2⟩,h3⟩
theorem gL.lt(h:gL P k e w b n S):b < w.heap.size:=by obtain⟨D,h1,_⟩:=h;exact h1.lt
theorem kL(hk:P.underlying k=some .string)(s:List UInt8)(hs:s.length≤100000):keyOf P k (.string (aa s))=some (.string s):=
 WideMaps.keyOf_string_mk hk (by rw[aq];show s.length≤9223372036854775807;omega)
theorem gL.look(h:gL P k e w b n S)(hk:P.underlying k=some .string)(ht:P.underlying t=some (.map k e))(he:P.underlying e=some (.int .i64))(hz:(zeroValue e).run P w= .ok (.int .i64 0) w)(s:List UInt8)(hs:s.length≤100000):
  (Instr.lookup t (.map (some b)) (.string (aa s)) false).run P w= .ok (.int .i64 (if S.contains s then 1 else 0)) w:=by
 obtain⟨D,h1,h2,h3⟩:=h;obtain⟨c,hrun,hat,_⟩:=h1.lookup_int (string_keyed hk) ht he hz (kL hk s hs);rw[h3 s]at hat;simp only[DataW.lit.injEq,Lit.int.injEq,true_and]at hat;rw[hrun,hat]
theorem gL.store(h:gL P k e w b n S)(hk:P.underlying k=some .string)(ht:P.underlying t=some (.map k e))(he:P.underlying e=some (.int .i64))(hn:n < maxLen)(s:List UInt8)(hs:s.length≤100000):
  ∃w',(Instr.mapUpdate t (.map (some b)) (.string (aa s)) (.int .i64 1)).run P w= .ok () w'∧gL P k e w' b (n+1) (s::S)∧w.grownBy w' (some b):=by
 obtain⟨D,h1,h2,h3⟩:=h;obtain⟨w',hrun,ho,hg⟩:=h1.update (string_keyed hk) ht hn (kL hk s hs) (plainElem_int he (by decide:(Lit.int .i64 1).wf=true));refine⟨w',hrun,⟨_,ho,h2.put _ _,fun x=> ?_⟩,hg⟩
 by_cases hxc:x=s
 ·subst hxc;rw[atKey_put_same h2 (zG x)];simp
 ·have hne:(Lit.string x)≠.string s:=fun h=>by injection h with h4;exact hxc h4
  rw[atKey_put_other hne,h3 x];have:(s::S).contains x=S.contains x:=by
   rw[List.contains_cons];have:(x==s)=false:=by rw[Z8];exact hxc
   rw[this,Bool.false_or]
  rw[this]
end
theorem kr{P:Program}(w:World){ops:Array Oper}{rest:List Oper}{o:Oper}{a:Act}{Q:Exit→Act→World→Prop}
  (hg:o.guard=none)(m x v:Operand)(t:TypeId)(hop:o.op=Op.mapUpdate t m x v)(k e:TypeId)(ht:P.underlying t=some (.map k e))(hk:P.underlying k=some .string)(he:P.underlying e=some (.int .i64))
  (b n:Nat)(S:List (List UInt8))(hm:a.eval m= .map (some b))(h:gL P k e w b n S)(hn:n < maxLen)(s:List UInt8)(hs:s.length≤100000)(hx:a.eval x= .string (aa s))(hv:a.eval v= .int .i64 1)
  (hK:∀w',gL P k e w' b (n+1) (s::S)→w.grownBy w' (some b)→wpList P ops Q rest (a.put o.dst undef) w'):
  wpList P ops Q (o::rest) a w:=by
 refine wpList_plain hg fun K' hK'=> ?_
 obtain⟨w',hrun,r1,r2⟩:=h.store hk ht he hn s hs;unfold Oper.wp;simp[execOp,hop,hm,hx,hv,hrun,Result.andThen];exact hK' _ _ (hK w' r1 r2)
end
end Go.Proofs.YtlomecfhobehnaaGreatDoor
