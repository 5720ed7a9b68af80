/-
  TgAsk, TgPlay, TgDone, KeptP, TgLaw2, RWith, RWithW, RLess
-/
import Derived.Test.YtajegiifabfcjaaGreatDoorQ18
namespace Go.Proofs.YtajegiifabfcjaaGreatDoor
open Go.RowKit
section
variable {n:Nat} {S:Cel→Prop} {B:Int} {t:Tg}
inductive Asked (t:Tg) (c:Cmd):Tg→Ans→Prop where
 | no (h:pmay t.k.s c.who (decide (c.op≠7))=false):Asked t c t (Ans.bad 4)
 | busy (h:pmay t.k.s c.who (decide (c.op≠7))=true) (hm:¬ 2≤(t.g.mem t.k.ep).length):Asked t c t (Ans.bad 7)
 | read (h:pmay t.k.s c.who (decide (c.op≠7))=true) (hm:2≤(t.g.mem t.k.ep).length) (ho:c.op=7) :
   Asked t c { t with g:=t.g.read t.k.ep c.at'.toNat } ⟨(bestL c.at'.toNat (t.g.frm t.k.ep)).d,0,0,0⟩
 | refused (h:pmay t.k.s c.who (decide (c.op≠7))=true) (hm:2≤(t.g.mem t.k.ep).length) (ho:c.op=9) (f:Int) (hf:(t.busy c.at'=true∧f=7)∨(t.busy c.at'=false∧(bestL c.at'.toNat (t.g.frm t.k.ep)).d≠c.want∧f=9)) :
   Asked t c { t with g:=t.g.read t.k.ep c.at'.toNat } (Ans.bad f)
 | full (h:pmay t.k.s c.who (decide (c.op≠7))=true) (hm:2≤(t.g.mem t.k.ep).length) (u:Tg) (hu:(c.op=8∧u=t)∨(c.op=9∧u={ t with g:=t.g.read t.k.ep c.at'.toNat }∧t.busy c.at'=false∧(bestL c.at'.toNat (t.g.frm t.k.ep)).d=c.want)):Asked t c u (Ans.bad 6)
 | write (h:pmay t.k.s c.who (decide (c.op≠7))=true) (hm:2≤(t.g.mem t.k.ep).length) (u:Tg) (hu:(c.op=8∧u=t)∨(c.op=9∧u={ t with g:=t.g.read t.k.ep c.at'.toNat }∧t.busy c.at'=false∧(bestL c.at'.toNat (t.g.frm t.k.ep)).d=c.want)) (hl:t.fly.length+3≤40) (hw:t.wait.length≠6) :
   Asked t c { u with num:=t.num+1,tag:=t.tag+1,fly:=t.fly ++ [t.msg c 0,t.msg c 1,t.msg c 2],wait:=t.wait ++ [⟨t.tag+1,c.who,t.num+1,[]⟩] } ⟨⟨#[]⟩,t.tag+1,0,0⟩
theorem busy_g (t:Tg) (g:Gp) (a:Int):({ t with g:=g }:Tg).busy a=t.busy a:=rfl
theorem asked_live (h:TI n S B t) {c:Cmd} (hf:cmdFault c=0) (ho:7≤c.op) (hb:t.b.get c.who=[]):Asked t c (t.ask n c).1 (t.ask n c).2:=by
 obtain ⟨hc,hat,-,-⟩:=fault_zero hf
 have hop:=hc.op
 unfold Tg.ask
 rw [if_neg (by simp [hf]),if_neg (by rw [hb]; simp [takeN]),if_neg (by omega)]
 by_cases hp:pmay t.k.s c.who (decide (c.op≠7))=false
 ·rw [if_pos hp]; exact .no hp
 rw [if_neg hp]
 have hp':pmay t.k.s c.who (decide (c.op≠7))=true:=by simpa using hp
 have wr:∀ u:Tg,((c.op=8∧u=t)∨(c.op=9∧u={ t with g:=t.g.read t.k.ep c.at'.toNat }∧t.busy c.at'=false∧(bestL c.at'.toNat (t.g.frm t.k.ep)).d=c.want))→2≤(t.g.mem t.k.ep).length→Asked t c (u.doWrite c).1 (u.doWrite c).2:=by
  intro u hu hm
  have e:u.wait=t.wait∧u.fly=t.fly∧u.num=t.num∧u.tag=t.tag∧u.k=t.k:=by
   rcases hu with ⟨-,rfl⟩ | ⟨-,rfl,-⟩ <;> exact ⟨rfl,rfl,rfl,rfl,rfl⟩
  unfold Tg.doWrite Tg.write
  rw [e.1,e.2.1]
  by_cases hc2:t.wait.length=6∨40<t.fly.length+3
  ·rw [if_pos hc2]
   exact .full hp' hm u hu
  ·rw [if_neg hc2]
   have em:∀ i,u.msg c i=t.msg c i:=fun i=>by unfold Tg.msg; rw [e.2.2.1,e.2.2.2.1,e.2.2.2.2]
   rw [em,em,em,e.2.2.1,e.2.2.2.1]
   exact .write hp' hm u hu (by omega) (by omega)
 by_cases h7:c.op=7
 ·rw [if_pos h7]
  by_cases hm:2≤(t.g.mem t.k.ep).length
  ·rw [(tread_live h _).2 hm]
   exact .read hp' hm h7
  ·rw [(tread_live h _).1 hm]
   exact .busy hp' hm
 rw [if_neg h7,h.isReady,h.ready]
 by_cases hm:2≤(t.g.mem t.k.ep).length
 ·rw [if_neg (by simp [hm])]
  by_cases h9:c.op=9
  ·rw [if_pos h9]
   unfold Tg.doComp
   dsimp only
   rw [(tread_live h _).2 hm]
   dsimp only
   rw [busy_g]
   by_cases hr:(0:Int)≠0∨(bestL c.at'.toNat (t.g.frm t.k.ep)).d≠c.want∨t.busy c.at'=true
   ·rw [if_pos hr]
    have e:({ t with g:=t.g.read t.k.ep c.at'.toNat }:Tg).refuse 0 c.at'=if t.busy c.at' then 7 else 9:=by
     unfold Tg.refuse
     rw [if_neg (by simp)]
     rfl
    rw [e]
    refine .refused hp' hm h9 _ ?_
    cases hbs:t.busy c.at'
    ·refine .inr ⟨rfl,?_,by simp⟩
     rcases hr with e | e | e
     ·exact absurd rfl e
     ·exact e
     ·rw [hbs] at e; cases e
    ·exact .inl ⟨rfl,by simp⟩
   ·rw [if_neg hr]
    have h2:t.busy c.at'=false:=by
     cases hbs:t.busy c.at'
     ·rfl
     ·exact absurd (.inr (.inr hbs)) hr
    have h3:(bestL c.at'.toNat (t.g.frm t.k.ep)).d=c.want:=by
     by_cases e:(bestL c.at'.toNat (t.g.frm t.k.ep)).d=c.want
     ·exact e
     ·exact absurd (.inr (.inl e)) hr
    exact wr _ (.inr ⟨h9,rfl,h2,h3⟩) hm
  ·rw [if_neg h9]
   exact wr _ (.inl ⟨by omega,rfl⟩) hm
 ·rw [if_pos (by simp; omega)]
  exact .busy hp' hm
def Tg.askN (n:Nat) (t:Tg) (c:Cmd):Nat→Tg × ByteArray × Int × Int
 | 0=>(t,⟨#[]⟩,0,7)
 | k+1=>if (t.ask n c).2.what=0 then ((t.ask n c).1,(t.ask n c).2.data,(t.ask n c).2.tag,(t.ask n c).2.err) else Tg.askN n (t.ask n c).1 c k
def Tg.deaf (t:Tg) (who:Int):Tg:={ t with b:=t.b.set who [] }
theorem Bl.set_get (b:Bl) (k:Int):b.set k (b.get k)=b:=by
 unfold Bl.set Bl.get
 repeat' split
 all_goals rfl
theorem Bl.set_set (b:Bl) (k:Int) (l m:List Int):(b.set k l).set k m=b.set k m:=by
 unfold Bl.set
 repeat' split
 all_goals rfl
theorem Bl.get_set_self (b:Bl) (k:Int) (l:List Int):(b.set k l).get k=l:=by
 unfold Bl.set Bl.get
 repeat' split
 all_goals first | rfl | (exfalso; omega)
theorem doWrite_what (u:Tg) (c:Cmd):(u.doWrite c).2.what=0:=by unfold Tg.doWrite; dsimp only
theorem doComp_what (u:Tg) (c:Cmd):(u.doComp c).2.what=0:=by
 unfold Tg.doComp
 dsimp only
 split
 ·unfold Ans.bad; dsimp only
 ·exact doWrite_what _ _
theorem bad_what (f:Int):(Ans.bad f).what=0:=by unfold Ans.bad; dsimp only
theorem ask_what {t:Tg} {c:Cmd} (hf:cmdFault c=0) (hb:t.b.get c.who=[]):(t.ask n c).2.what=0:=by
 have h0:¬ 0<takeN ([]:List Int):=by simp [takeN]
 unfold Tg.ask
 rw [if_neg (by simp [hf]),hb,if_neg h0]
 split
 ·exact bad_what _
 split
 ·exact bad_what _
 split
 ·dsimp only
 split
 ·exact bad_what _
 split
 ·exact doComp_what _ _
 ·exact doWrite_what _ _
theorem ask_told {t:Tg} (hbx:t.b.ok) {c:Cmd} (hf:cmdFault c=0) {x:Int} {l:List Int} (hb:t.b.get c.who=x :: l):t.ask n c=({ t with b:=t.b.set c.who l },⟨⟨#[]⟩,0,x,0⟩)∧1≤x∧x≤4:=by
 have hx:=hbx.num c.who x (by rw [hb]; simp)
 unfold Tg.ask
 rw [if_neg (by simp [hf]),hb,if_pos (by show 0<x; omega)]
 exact ⟨rfl,hx⟩
theorem askN_law {t:Tg} (hbx:t.b.ok) {c:Cmd} (hf:cmdFault c=0):∀ k,(t.b.get c.who).length<k→t.askN n c k=(((t.deaf c.who).ask n c).1,((t.deaf c.who).ask n c).2.data,((t.deaf c.who).ask n c).2.tag,((t.deaf c.who).ask n c).2.err)
 | 0,h=>absurd h (by omega)
 | k+1,h=>by
  unfold Tg.askN
  cases hb:t.b.get c.who with
  | nil =>
   have e:t.deaf c.who=t:=by unfold Tg.deaf; rw [← hb,Bl.set_get]
   rw [if_pos (ask_what hf hb),e]
  | cons x l =>
   obtain ⟨e,hx⟩:=ask_told (n:=n) hbx hf hb
   rw [hb] at h
   rw [e]
   rw [if_neg (by show ¬ x=0; omega)]
   have hbx':({ t with b:=t.b.set c.who l }:Tg).b.ok:=hbx.set _ (by have:=hbx.len c.who; rw [hb] at this; simp at this; omega) (fun y hy=>hbx.num c.who y (by rw [hb]; simp [hy]))
   have ih:=askN_law (t:={ t with b:=t.b.set c.who l }) hbx' hf k (by show ((t.b.set c.who l).get c.who).length<k; rw [Bl.get_set_self]; simp at h; omega)
   rw [ih]
   have ed:({ t with b:=t.b.set c.who l }:Tg).deaf c.who=t.deaf c.who:=by unfold Tg.deaf; rw [Bl.set_set]
   rw [ed]
theorem askN_six (h:TI n S B t) {c:Cmd} (hf:cmdFault c=0):t.askN n c 6=(((t.deaf c.who).ask n c).1,((t.deaf c.who).ask n c).2.data,((t.deaf c.who).ask n c).2.tag,((t.deaf c.who).ask n c).2.err) :=
 askN_law h.box hf 6 (by have:=h.box.len c.who; omega)
theorem TI.deaf (h:TI n S B t) (who:Int):TI n S B (t.deaf who):=h.setB (h.box.set _ (by simp) (fun x hx=>by cases hx))
theorem deaf_get (t:Tg) (who:Int):(t.deaf who).b.get who=[]:=Bl.get_set_self _ _ _
theorem asked_six (h:TI n S B t) {c:Cmd} (hf:cmdFault c=0) (ho:7≤c.op):∃ u a,Asked (t.deaf c.who) c u a∧t.askN n c 6=(u,a.data,a.tag,a.err) :=
 ⟨_,_,asked_live (h.deaf _) hf ho (deaf_get _ _),askN_six h hf⟩
end
def sAsk:ByteArray:=⟨#[97,115,107]⟩
def sDeliver:ByteArray:=⟨#[100,101,108,105,118,101,114]⟩
def sLose:ByteArray:=⟨#[108,111,115,101]⟩
def sPower:ByteArray:=⟨#[112,111,119,101,114]⟩
def Tg.anew (n:Nat) (t:Tg):Tg:=if (Tg.new n t.k t.g).2=0 then (Tg.new n t.k t.g).1 else t
def Tg.play (n:Nat) (t:Tg) (x:Ac):Tg :=
 if x.kind=sAsk then (t.ask n x.cm).1
 else if x.kind=sDeliver then (t.deliver x.a (decide (x.b=1))).1
 else if x.kind=sLose then (t.lose x.a).1
 else if x.kind=sUp∨x.kind=sDown then (t.up x.a (decide (x.kind=sUp))).1
 else if x.kind=sSync then (t.sync x.a).1
 else if x.kind=sPower then (t.power n).1
 else t.anew n
section
variable {n:Nat} {S:Cel→Prop} {B:Int} {t:Tg}
theorem TI.anew (h:TI n S B t) (hB:B+2<1000000000000000):TI n S (B+2) (t.anew n):=by
 obtain ⟨n1,n2,n3⟩:=new_live h hB
 unfold Tg.anew
 by_cases hm:2≤(t.g.mem t.k.ep).length
 ·by_cases he:t.k.ep=1000000
  ·rw [n3 hm he,if_neg (by decide)]; exact h.mono (by omega)
  ·obtain ⟨e1,d,e2,e3,e4⟩:=n1 hm he
   rw [if_pos e1,e2]
   exact h.new hm e3 e4
 ·rw [n2 hm,if_neg (by decide)]; exact h.mono (by omega)
theorem TI.play (h:TI n S B t) (hB:B+2<1000000000000000) (x:Ac):∃ S',(∀ x,S x→S' x)∧TI n S' (B+2) (t.play n x):=by
 have sm:∀ {u:Tg},TI n S B u→∃ S',(∀ x,S x→S' x)∧TI n S' (B+2) u:=fun hu=>⟨S,fun _ hx=>hx,hu.mono (by omega)⟩
 unfold Tg.play
 split
 ·exact h.ask hB _
 split
 ·exact sm (h.deliver _ _)
 split
 ·exact sm (h.lose _)
 split
 ·exact sm (h.up _ _)
 split
 ·exact sm (h.sync _)
 split
 ·exact ⟨S,fun _ hx=>hx,h.power hB⟩
 ·exact ⟨S,fun _ hx=>hx,h.anew hB⟩
end
section
variable {n:Nat} {S:Cel→Prop} {B:Int} {t:Tg}
end
section
variable {n:Nat} {S:Cel→Prop} {B:Int} {t:Tg}
end
def rwLay (who key:Int) (s:List (Int × Int) × Bool) (r:Int × Int):List (Int × Int) × Bool:=if s.2=false∧who≤r.1 then (s.1 ++ [(who,key)],true) else s
def rwStep (who key:Int) (s:List (Int × Int) × Bool) (r:Int × Int):List (Int × Int) × Bool:=if r.1≠who then ((rwLay who key s r).1 ++ [r],(rwLay who key s r).2) else rwLay who key s r
def rwFold (who key:Int) (l:List (Int × Int)):List (Int × Int) × Bool:=l.foldl (rwStep who key) ([],decide (key=0))
def rwEnd (who key:Int) (s:List (Int × Int) × Bool):List (Int × Int):=if s.2=false then s.1 ++ [(who,key)] else s.1
theorem rw_snoc (who key:Int) (l:List (Int × Int)) (k:Nat) (h:k<l.length):rwFold who key (l.take (k+1))=rwStep who key (rwFold who key (l.take k)) l[k]:=by
 rw [List.take_succ_eq_append_getElem h]
 unfold rwFold
 rw [List.foldl_append]
 rfl
theorem rw_laid (who key:Int):∀ (l acc:List (Int × Int)),(l.foldl (rwStep who key) (acc,true))=(acc ++ without who l,true)
 | [],acc=>by simp [without]
 | r :: l,acc=>by
  rw [List.foldl_cons]
  have hl:rwLay who key (acc,true) r=(acc,true):=by simp [rwLay]
  by_cases e:r.1=who
  ·have:rwStep who key (acc,true) r=(acc,true):=by unfold rwStep; rw [if_neg (by simp [e]),hl]
   rw [this,rw_laid who key l acc]
   simp [without,e]
  ·have:rwStep who key (acc,true) r=(acc ++ [r],true):=by unfold rwStep; rw [if_pos e,hl]
   rw [this,rw_laid who key l]
   simp [without,e]
theorem ins_head (who key:Int) (l:List (Int × Int)) (h:∀ r∈l,who≤r.1):ins who key l=(who,key) :: l:=by
 cases l with
 | nil=>rfl
 | cons r l=>unfold ins; rw [if_neg (by have:=h r (by simp); omega)]
theorem rw_open (who key:Int):∀ (l acc:List (Int × Int)),l.Pairwise (fun a b=>a.1<b.1)→rwEnd who key (l.foldl (rwStep who key) (acc,false))=acc ++ ins who key (without who l)
 | [],acc,_=>by simp [rwEnd,without,ins]
 | r :: l,acc,hp=>by
  rw [List.pairwise_cons] at hp
  rw [List.foldl_cons]
  by_cases e:who≤r.1
  ·have hl:rwLay who key (acc,false) r=(acc ++ [(who,key)],true):=by simp [rwLay,e]
   have hge:∀ x∈without who (r :: l),who≤x.1:=fun x hx=>by
    have:=(List.mem_filter.1 hx).1
    rcases List.mem_cons.1 this with rfl | hx
    ·exact e
    ·have:=hp.1 x hx; omega
   rw [ins_head who key _ hge]
   by_cases e2:r.1=who
   ·have:rwStep who key (acc,false) r=(acc ++ [(who,key)],true):=by unfold rwStep; rw [if_neg (by simp [e2]),hl]
    rw [this,rw_laid]
    simp [rwEnd,without,e2]
   ·have:rwStep who key (acc,false) r=(acc ++ [(who,key)] ++ [r],true):=by unfold rwStep; rw [if_pos e2,hl]
    rw [this,rw_laid]
    simp [rwEnd,without,e2]
  ·have hl:rwLay who key (acc,false) r=(acc,false):=by simp [rwLay,e]
   have e2:r.1≠who:=by omega
   have:rwStep who key (acc,false) r=(acc ++ [r],false):=by unfold rwStep; rw [if_pos e2,hl]
   rw [this,rw_open who key l _ hp.2]
   have hw:without who (r :: l)=r :: without who l:=by simp [without,e2]
   rw [hw]
   have hi:ins who key (r :: without who l)=r :: ins who key (without who l):=by rw [ins,if_pos (by omega)]
   rw [hi]
   simp
theorem rw_with (who key:Int) (l:List (Int × Int)) (hk:0≤key) (hp:l.Pairwise (fun a b=>a.1<b.1)):rwEnd who key (rwFold who key l)=withL l who key:=by
 unfold rwFold withL
 rcases (by omega:key=0∨0<key) with e | e
 ·subst e
  rw [if_neg (by omega)]
  have:decide ((0:Int)=0)=true:=rfl
  rw [this,rw_laid]
  simp [rwEnd]
 ·rw [if_pos e]
  have:decide (key=0)=false:=by simp; omega
  rw [this,rw_open who key l _ hp]
  simp
theorem rw_len (who key:Int) (l:List (Int × Int)):(rwFold who key l).1.length≤2*l.length:=by
 have:∀ (l:List (Int × Int)) (s:List (Int × Int) × Bool),(l.foldl (rwStep who key) s).1.length≤s.1.length+2*l.length:=by
  intro l
  induction l with
  | nil=>intro s; simp
  | cons r l ih =>
   intro s
   rw [List.foldl_cons]
   have:=ih (rwStep who key s r)
   have h2:(rwStep who key s r).1.length≤s.1.length+2:=by
    unfold rwStep rwLay
    split <;> split <;> simp
   simp only [List.length_cons]
   omega
 simpa [rwFold] using this l ([],decide (key=0))
theorem OwnP.alloc {B:Nat} {w:World} {v:Value} {l:List (Int × Int)} (h:OwnP B w v l) (o:Obj):OwnP B (w.alloc o) v l:=h.below (bal w o)
theorem one_cells (w:World) (x y:Int) (T:TypeId) (n:Nat) (hn:n=w.heap.size):∀ j u,(pcells [(x,y)])[j]?=some u→(w.alloc (.cells #[.int .i64 x,.int .i64 y] T)).cell? ((⟨n,0,none⟩:Addr).add j)=some u:=by
 subst hn
 intro j u hj
 have hadd:(⟨w.heap.size,0,none⟩:Addr).add j=⟨w.heap.size,j,none⟩:=by unfold Addr.add; split <;> simp_all
 rw [hadd]
 match j,hj with
 | 0,hj=>simp [pcells] at hj; simp [hj]
 | 1,hj=>simp [pcells] at hj; simp [hj]
 | j+2,hj=>simp [pcells] at hj
set_option maxHeartbeats 2000000 in
set_option maxRecDepth 100000 in
theorem rwith_lo (s:St) (a:Option Addr) (cap:Nat) (who key:Int) (w:World) (hr:StR w s a) (hl:s.regs.length≤50) (hk:0≤key) (hs:s.regs.Pairwise (fun a b=>a.1<b.1)) :
  Calls Tryz.prog 70 #[stV s a cap,.int .i64 who,.int .i64 key] w fun e w'=>∃ a' cap',e=.returned (stV (s.withRegs (withL s.regs who key)) a' cap')∧StR w' (s.withRegs (withL s.regs who key)) a'∧Below w.heap.size w w'∧(∀ b o,a'=some ⟨b,o,none⟩→w.heap.size≤b):=by
 rw [← rw_with who key s.regs hk hs]
 obtain ⟨g,l,t,h,st⟩:=s
 obtain ⟨_,hr⟩:=hr
 dsimp only at hl hr
 obtain ⟨i0,hi,hz0,hz1,hz2⟩:=info_parts Tryz.infoReg
 have hkb:(key == 0)=decide (key=0):=by rcases (by omega:key=0∨key≠0) with e | e <;> simp [e]
 have HKB:=Lib.hid hkb
 clear hs hkb
 go_enter Tryz.func70,Tryz.ntmps70
 go_wp2
 go_loopw [7,8,9] (fun v b i wr=>∃ k:Nat,k≤l.length∧i=.int .i64 k∧b=.bool (rwFold who key (l.take k)).2∧OwnP (w.heap.size+2) wr v (rwFold who key (l.take k)).1 ∧
   Below (w.heap.size+2) ((w.alloc (.cells #[.int .i64 g,.slice a l.length cap,.int .i64 t,.int .i64 h,.bool st] 35)).alloc (.cells #[.int .i64 0,.slice none 0 0,.int .i64 0,.int .i64 0,.bool false] 35)) wr) (fun _ _ i _=>l.length - (intOf i).toNat)
 case atStart=>exact ⟨0,by omega,rfl,by rw [HKB.out]; rfl,⟨rfl,.inl ⟨rfl,rfl⟩⟩,Below.refl _ _⟩
 case round =>
  obtain ⟨k,hk,rfl,rfl,hown,hb⟩:=hrel
  have hfl:=rw_len who key (l.take k)
  have hfl2:(rwFold who key (l.take k)).1.length≤2*l.length:=by simp at hfl; omega
  clear hfl
  have HSN:=Lib.hid (rw_snoc who key l k)
  have hsz:w.heap.size+2≤wr.heap.size:=by have:=hb.size; simpa using this
  have hhp:∀ A B:Obj,((w.alloc A).alloc B).heap[w.heap.size]?=some A∧((w.alloc A).alloc B).heap[w.heap.size+1]?=some B:=fun A B=>⟨heap_alloc2_old w A B,heap_alloc2_new w A B⟩
  obtain ⟨⟨e0,e1,e2,e3,e4⟩,f0,f1,f2,f3,f4⟩:=box5 hb (b:=w.heap.size) (by omega) (hhp _ _).1
  obtain ⟨⟨g0,g1,g2,g3,g4⟩,k0,k1,k2,k3,k4⟩:=box5 hb (b:=w.heap.size+1) (by omega) (hhp _ _).2
  clear hhp
  by_cases hlt:k<l.length
  ·have hsn:=HSN.out hlt
   obtain ⟨b,o,rfl,hbs,h1,h2⟩:=hr k hlt
   have b0:Below w.heap.size w wr:=bover (bover hb (by simp)) (by simp)
   have c1:=(b0.cell (p:=⟨b,o+k*2,none⟩) hbs).trans h1
   have c2:=(b0.cell (p:=⟨b,o+k*2+1,none⟩) hbs).trans h2
   generalize rwFold who key (l.take k)=F at *
   obtain ⟨acc,laid⟩:=F
   dsimp only at hown hfl2 ⊢
   have HOWN:=Lib.hid hown
   have HBLK:=Lib.hid hown.blk
   have H1:=Lib.hid h1
   have H2:=Lib.hid h2
   clear hown HSN hr h1 h2
   have hfl3:acc.length≤100:=by omega
   cases laid
   ·by_cases hge:who≤l[k].1
    ·rcases (by omega:l[k].1=who∨l[k].1≠who) with he | he
     ·have hst:rwStep who key (acc,false) l[k]=(acc ++ [(who,key)],true):=by
       have hly:rwLay who key (acc,false) l[k]=(acc ++ [(who,key)],true):=by simp [rwLay,hge]
       unfold rwStep
       rw [if_neg (by simp [he]),hly]
      have HST:=Lib.hid (hsn.trans hst)
      have heb:(l[k].1 != who)=false:=by simp [he]
      clear hst hsn he
      have q3:acc.length+1≤maxLen:=by unfold maxLen; omega
      have q4:(acc.length+1)*16≤140737488355328:=by omega
      have q5:∀ o,w.heap.size+2≤(wr.alloc o).heap.size:=fun o=>by simp; omega
      go_wp2_with (at_builtin; refine wpList_append_own _ rfl (.tmp 31) (.tmp 35) 33 rfl (w.heap.size+2) 118 i0 (.agg #[.int .i64 0,.int .i64 0]) 2 16 Tryz.underlying33 hi hz0 hz1 hz2 rfl (by decide) _ _ _ rfl (HOWN.out.alloc _) ⟨wr.heap.size,0,none⟩ 1 1 (pcells [(who,key)]) rfl rfl (one_cells _ _ _ _ _ rfl) (pcells_one _) q3 q4 (q5 _) ?_)
      intro v1 w1 hown1 hg1 _
      clear q3 q4 q5
      have own1:OwnP (w.heap.size+2) w1 v1 (acc ++ [(who,key)]):=own_snoc hown1
      have hb1:=(hb.alloc (by omega) _).grown hg1 (by simp; omega) HBLK.out
      have HOWN1:=Lib.hid own1
      have HBLK1:=Lib.hid own1.blk
      have hsz1:w.heap.size+2≤w1.heap.size:=by have:=hb1.size; simpa using this
      clear hown1 hg1 own1
      have b1:Below w.heap.size w w1:=bover (bover hb1 (by simp)) (by simp)
      have c11:=(b1.cell (p:=⟨b,o+k*2,none⟩) hbs).trans H1.out
      have c21:=(b1.cell (p:=⟨b,o+k*2+1,none⟩) hbs).trans H2.out
      obtain ⟨⟨e01,e11,e21,e31,e41⟩,f01,f11,f21,f31,f41⟩:=box5 hb1 (b:=w.heap.size) (by omega) (heap_alloc2_old w _ _)
      go_wp2
      go_roundw
      case rel=>exact ⟨k+1,by omega,by go_num,by rw [HST.out],by rw [HST.out]; exact HOWN1.out,hb1⟩
      case measure=>simp [intOf]; omega
     ·have hst:rwStep who key (acc,false) l[k]=(acc ++ [(who,key)] ++ [l[k]],true):=by
       have hly:rwLay who key (acc,false) l[k]=(acc ++ [(who,key)],true):=by simp [rwLay,hge]
       unfold rwStep
       rw [if_pos he,hly]
      have HST:=Lib.hid (hsn.trans hst)
      have heb:(l[k].1 != who)=true:=by simp [he]
      clear hst hsn he
      have q3:acc.length+1≤maxLen:=by unfold maxLen; omega
      have q4:(acc.length+1)*16≤140737488355328:=by omega
      have q5:∀ o,w.heap.size+2≤(wr.alloc o).heap.size:=fun o=>by simp; omega
      go_wp2_with (at_builtin; refine wpList_append_own _ rfl (.tmp 31) (.tmp 35) 33 rfl (w.heap.size+2) 118 i0 (.agg #[.int .i64 0,.int .i64 0]) 2 16 Tryz.underlying33 hi hz0 hz1 hz2 rfl (by decide) _ _ _ rfl (HOWN.out.alloc _) ⟨wr.heap.size,0,none⟩ 1 1 (pcells [(who,key)]) rfl rfl (one_cells _ _ _ _ _ rfl) (pcells_one _) q3 q4 (q5 _) ?_)
      intro v1 w1 hown1 hg1 _
      clear q3 q4 q5
      have own1:OwnP (w.heap.size+2) w1 v1 (acc ++ [(who,key)]):=own_snoc hown1
      have hb1:=(hb.alloc (by omega) _).grown hg1 (by simp; omega) HBLK.out
      have HOWN1:=Lib.hid own1
      have HBLK1:=Lib.hid own1.blk
      have hsz1:w.heap.size+2≤w1.heap.size:=by have:=hb1.size; simpa using this
      clear hown1 hg1 own1
      have b1:Below w.heap.size w w1:=bover (bover hb1 (by simp)) (by simp)
      have c11:=(b1.cell (p:=⟨b,o+k*2,none⟩) hbs).trans H1.out
      have c21:=(b1.cell (p:=⟨b,o+k*2+1,none⟩) hbs).trans H2.out
      obtain ⟨⟨e01,e11,e21,e31,e41⟩,f01,f11,f21,f31,f41⟩:=box5 hb1 (b:=w.heap.size) (by omega) (heap_alloc2_old w _ _)
      have q3:(acc ++ [(who,key)]).length+1≤maxLen:=by simp only [List.length_append,List.length_cons,List.length_nil]; unfold maxLen; omega
      have q4:((acc ++ [(who,key)]).length+1)*16≤140737488355328:=by simp only [List.length_append,List.length_cons,List.length_nil]; omega
      have q5:∀ o,w.heap.size+2≤(w1.alloc o).heap.size:=fun o=>by simp; omega
      go_wp2_with (at_builtin; refine wpList_append_own _ rfl (.tmp 45) (.tmp 51) 33 rfl (w.heap.size+2) 118 i0 (.agg #[.int .i64 0,.int .i64 0]) 2 16 Tryz.underlying33 hi hz0 hz1 hz2 rfl (by decide) _ _ _ rfl (HOWN1.out.alloc _) ⟨w1.heap.size,0,none⟩ 1 1 (pcells [(l[k].1,l[k].2)]) rfl rfl (one_cells _ _ _ _ _ rfl) (pcells_one _) q3 q4 (q5 _) ?_)
      intro v2 w2 hown2 hg2 _
      clear q3 q4 q5
      have own2:OwnP (w.heap.size+2) w2 v2 (acc ++ [(who,key)] ++ [l[k]]):=own_snoc (l:=acc ++ [(who,key)]) (x:=l[k].1) (y:=l[k].2) (by rw [List.length_append]; exact hown2)
      have hb2:=(hb1.alloc (by omega) _).grown hg2 (by simp; omega) HBLK1.out
      have HOWN2:=Lib.hid own2
      have HBLK2:=Lib.hid own2.blk
      have hsz2:w.heap.size+2≤w2.heap.size:=by have:=hb2.size; simpa using this
      clear hown2 hg2 own2
      go_wp2
      go_roundw
      case rel=>exact ⟨k+1,by omega,by go_num,by rw [HST.out],by rw [HST.out]; exact HOWN2.out,hb2⟩
      case measure=>simp [intOf]; omega
    ·have he:l[k].1≠who:=by omega
     have hst:rwStep who key (acc,false) l[k]=(acc ++ [l[k]],false):=by
      have hly:rwLay who key (acc,false) l[k]=(acc,false):=by simp [rwLay,hge]
      unfold rwStep
      rw [if_pos he,hly]
     have HST:=Lib.hid (hsn.trans hst)
     have heb:(l[k].1 != who)=true:=by simp [he]
     clear hst hsn he
     have q3:acc.length+1≤maxLen:=by unfold maxLen; omega
     have q4:(acc.length+1)*16≤140737488355328:=by omega
     have q5:∀ o,w.heap.size+2≤(wr.alloc o).heap.size:=fun o=>by simp; omega
     go_wp2_with (at_builtin; refine wpList_append_own _ rfl (.tmp 45) (.tmp 51) 33 rfl (w.heap.size+2) 118 i0 (.agg #[.int .i64 0,.int .i64 0]) 2 16 Tryz.underlying33 hi hz0 hz1 hz2 rfl (by decide) _ _ _ rfl (HOWN.out.alloc _) ⟨wr.heap.size,0,none⟩ 1 1 (pcells [(l[k].1,l[k].2)]) rfl rfl (one_cells _ _ _ _ _ rfl) (pcells_one _) q3 q4 (q5 _) ?_)
     intro v2 w2 hown2 hg2 _
     clear q3 q4 q5
     have own2:OwnP (w.heap.size+2) w2 v2 (acc ++ [l[k]]):=own_snoc hown2
     have hb2:=(hb.alloc (by omega) _).grown hg2 (by simp; omega) HBLK.out
     have HOWN2:=Lib.hid own2
     have HBLK2:=Lib.hid own2.blk
     have hsz2:w.heap.size+2≤w2.heap.size:=by have:=hb2.size; simpa using this
     clear hown2 hg2 own2
     go_wp2
     go_roundw
     case rel=>exact ⟨k+1,by omega,by go_num,by rw [HST.out],by rw [HST.out]; exact HOWN2.out,hb2⟩
     case measure=>simp [intOf]; omega
   ·rcases (by omega:l[k].1=who∨l[k].1≠who) with he | he
    ·have hst:rwStep who key (acc,true) l[k]=(acc,true):=by
      have hly:rwLay who key (acc,true) l[k]=(acc,true):=by simp [rwLay]
      unfold rwStep
      rw [if_neg (by simp [he]),hly]
     have HST:=Lib.hid (hsn.trans hst)
     have heb:(l[k].1 != who)=false:=by simp [he]
     clear hst hsn he
     go_wp2
     go_roundw
     case rel=>exact ⟨k+1,by omega,by go_num,by rw [HST.out],by rw [HST.out]; exact HOWN.out,hb⟩
     case measure=>simp [intOf]; omega
    ·have hst:rwStep who key (acc,true) l[k]=(acc ++ [l[k]],true):=by
      have hly:rwLay who key (acc,true) l[k]=(acc,true):=by simp [rwLay]
      unfold rwStep
      rw [if_pos he,hly]
     have HST:=Lib.hid (hsn.trans hst)
     have heb:(l[k].1 != who)=true:=by simp [he]
     clear hst hsn he
     have q3:acc.length+1≤maxLen:=by unfold maxLen; omega
     have q4:(acc.length+1)*16≤140737488355328:=by omega
     have q5:∀ o,w.heap.size+2≤(wr.alloc o).heap.size:=fun o=>by simp; omega
     go_wp2_with (at_builtin; refine wpList_append_own _ rfl (.tmp 45) (.tmp 51) 33 rfl (w.heap.size+2) 118 i0 (.agg #[.int .i64 0,.int .i64 0]) 2 16 Tryz.underlying33 hi hz0 hz1 hz2 rfl (by decide) _ _ _ rfl (HOWN.out.alloc _) ⟨wr.heap.size,0,none⟩ 1 1 (pcells [(l[k].1,l[k].2)]) rfl rfl (one_cells _ _ _ _ _ rfl) (pcells_one _) q3 q4 (q5 _) ?_)
     intro v2 w2 hown2 hg2 _
     clear q3 q4 q5
     have own2:OwnP (w.heap.size+2) w2 v2 (acc ++ [l[k]]):=own_snoc hown2
     have hb2:=(hb.alloc (by omega) _).grown hg2 (by simp; omega) HBLK.out
     have HOWN2:=Lib.hid own2
     have HBLK2:=Lib.hid own2.blk
     have hsz2:w.heap.size+2≤w2.heap.size:=by have:=hb2.size; simpa using this
     clear hown2 hg2 own2
     go_wp2
     go_roundw
     case rel=>exact ⟨k+1,by omega,by go_num,by rw [HST.out],by rw [HST.out]; exact HOWN2.out,hb2⟩
     case measure=>simp [intOf]; omega
  ·obtain rfl:k=l.length:=by omega
   simp only [List.take_length] at hown hfl2 ⊢
   clear HSN hlt
   generalize hF:rwFold who key l=F at *
   obtain ⟨acc,laid⟩:=F
   dsimp only at hown hfl2 ⊢
   have HF:=Lib.hid hF
   clear hF
   have HOWN:=Lib.hid hown
   have HBLK:=Lib.hid hown.blk
   have hfl3:acc.length≤100:=by omega
   cases laid
   ·clear hown
    have q3:acc.length+1≤maxLen:=by unfold maxLen; omega
    have q4:(acc.length+1)*16≤140737488355328:=by omega
    have q5:∀ o,w.heap.size+2≤(wr.alloc o).heap.size:=fun o=>by simp; omega
    go_wp2_with (at_builtin; refine wpList_append_own _ rfl (.tmp 55) (.tmp 59) 33 rfl (w.heap.size+2) 118 i0 (.agg #[.int .i64 0,.int .i64 0]) 2 16 Tryz.underlying33 hi hz0 hz1 hz2 rfl (by decide) _ _ _ rfl (HOWN.out.alloc _) ⟨wr.heap.size,0,none⟩ 1 1 (pcells [(who,key)]) rfl rfl (one_cells _ _ _ _ _ rfl) (pcells_one _) q3 q4 (q5 _) ?_)
    intro v1 w1 hown1 hg1 _
    clear q3 q4 q5
    have own1:OwnP (w.heap.size+2) w1 v1 (acc ++ [(who,key)]):=own_snoc hown1
    have hb1:=(hb.alloc (by omega) _).grown hg1 (by simp; omega) HBLK.out
    have HOWN1:=Lib.hid own1
    have HBLK1:=Lib.hid own1.blk
    have hsz1:w.heap.size+2≤w1.heap.size:=by have:=hb1.size; simpa using this
    clear hown1 hg1 own1
    obtain ⟨a1,p1,hv1,pr1,_⟩:=HOWN1.out.shape
    subst hv1
    obtain ⟨⟨e01,e11,e21,e31,e41⟩,f01,f11,f21,f31,f41⟩:=box5 hb1 (b:=w.heap.size) (by omega) (heap_alloc2_old w _ _)
    obtain ⟨⟨g01,g11,g21,g31,g41⟩,k01,k11,k21,k31,k41⟩:=box5 hb1 (b:=w.heap.size+1) (by omega) (heap_alloc2_new w _ _)
    go_wp2
    refine bodyPost_ret (v:=stV ⟨g,acc ++ [(who,key)],t,h,st⟩ a1 p1) (by simp [results,Tryz.results70,go_sem,g01,g11,g21,g31,g41]) rfl ?_
    have hfin:rwEnd who key (rwFold who key l)=acc ++ [(who,key)]:=by rw [HF.out]; simp [rwEnd]
    show ∃ a' cap',_=Ending.returned (stV (St.withRegs ⟨g,l,t,h,st⟩ (rwEnd who key (rwFold who key l))) a' cap')∧StR _ (St.withRegs ⟨g,l,t,h,st⟩ (rwEnd who key (rwFold who key l))) a'∧_
    rw [hfin]
    refine ⟨a1,p1,rfl,⟨?_,?_⟩,?_,?_⟩
    ·show (acc ++ [(who,key)]).length≤maxLen; unfold maxLen; simp only [List.length_append,List.length_cons,List.length_nil]; omega
    ·have lo:=(show OwnP _ w1 (.slice a1 _ p1) (acc ++ [(who,key)]) from HOWN1.out).lo
     have hn:∀ q:Nat,q<w.heap.size+1+1→∀ b o,a1=some ⟨b,o,none⟩→b≠q:=fun q hq b o e=>by have:=lo b o e; omega
     refine (?_:Pairs w1.heap.size _ _ _).mono (by simp [World.setCell])
     iterate 6 (with_reducible refine Pairs.setCell ?_ (hn _ (by dsimp only; omega)) _)
     exact pr1
    ·exact ((((((bover (bover hb1 (by simp)) (by first | (simp; done) | omega)).setCell (Nat.le_refl _) _).setCell (by show w.heap.size≤w.heap.size+1; omega) _).setCell (by show w.heap.size≤w.heap.size+1; omega) _).setCell (by show w.heap.size≤w.heap.size+1; omega) _).setCell (by show w.heap.size≤w.heap.size+1; omega) _).setCell (by show w.heap.size≤w.heap.size+1; omega) _
    ·exact fun b o e=>by have:=(show OwnP _ w1 (.slice a1 _ p1) (acc ++ [(who,key)]) from HOWN1.out).lo b o e; omega
   ·obtain ⟨a1,p1,hv1,pr1,_⟩:=hown.shape
    subst hv1
    clear hown
    go_wp2
    refine bodyPost_ret (v:=stV ⟨g,acc,t,h,st⟩ a1 p1) (by simp [results,Tryz.results70,go_sem,g0,g1,g2,g3,g4]) rfl ?_
    have hfin:rwEnd who key (rwFold who key l)=acc:=by rw [HF.out]; simp [rwEnd]
    show ∃ a' cap',_=Ending.returned (stV (St.withRegs ⟨g,l,t,h,st⟩ (rwEnd who key (rwFold who key l))) a' cap')∧StR _ (St.withRegs ⟨g,l,t,h,st⟩ (rwEnd who key (rwFold who key l))) a'∧_
    rw [hfin]
    refine ⟨a1,p1,rfl,⟨?_,?_⟩,?_,?_⟩
    ·show (acc).length≤maxLen; unfold maxLen; omega
    ·have lo:=(show OwnP _ wr (.slice a1 _ p1) (acc) from HOWN.out).lo
     have hn:∀ q:Nat,q<w.heap.size+1+1→∀ b o,a1=some ⟨b,o,none⟩→b≠q:=fun q hq b o e=>by have:=lo b o e; omega
     refine (?_:Pairs wr.heap.size _ _ _).mono (by simp [World.setCell])
     iterate 6 (with_reducible refine Pairs.setCell ?_ (hn _ (by dsimp only; omega)) _)
     exact pr1
    ·exact ((((((bover (bover hb (by simp)) (by first | (simp; done) | omega)).setCell (Nat.le_refl _) _).setCell (by show w.heap.size≤w.heap.size+1; omega) _).setCell (by show w.heap.size≤w.heap.size+1; omega) _).setCell (by show w.heap.size≤w.heap.size+1; omega) _).setCell (by show w.heap.size≤w.heap.size+1; omega) _).setCell (by show w.heap.size≤w.heap.size+1; omega) _
    ·exact fun b o e=>by have:=(show OwnP _ wr (.slice a1 _ p1) (acc) from HOWN.out).lo b o e; omega
end Go.Proofs.YtajegiifabfcjaaGreatDoor
