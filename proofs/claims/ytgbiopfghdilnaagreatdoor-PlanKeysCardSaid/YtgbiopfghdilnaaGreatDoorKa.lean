/-
Texts of this proof,one behind the other. No conditions.
-/
import Derived.WalkKit
import Derived.WalkSpells
open List renaming getD_eq_getElem?_getD→Ka,getElem?_eq_getElem→Kc,range→Kh,all_eq_true→Kj,getElem_mem→Kk,getElem?_take→Ky,getElem?_drop→Kz,length_cons→KB
open Nat renaming lt_of_lt_of_le→Kb,le_refl→Ki,le_trans→Ks,add_assoc→Ku,lt_or_ge→KD,ne_of_lt→KE,zero_add→KF
open Go.Result renaming andThen_ok→Kd
open Go renaming undef→Ke
open Go.Sem renaming run_bind→Kf,run_pure→Kp
open Bool renaming and_eq_true→Kg
open Option renaming bind_eq_some_iff→Km,bind_some→KC
open Array renaming getElem?_eq_getElem→Ko,getD_eq_getD_getElem?→Kt,getElem?_eq_none→Kv
open Go.World renaming shape?→Kq,cell?→Kx
open Go.Instr renaming loadAt→Kw,sureAddr→KA
set_option linter.unusedSimpArgs false
set_option linter.unusedVariables false
set_option linter.unusedSectionVars false
set_option maxHeartbeats 8000000
namespace Go.Proofs.YtgbiopfghdilnaaGreatDoor
theorem or{P:Prop}(h:P:=by omega):P:=h
theorem Zm{P:Prop}(h:P:=by simp):P:=h
theorem ZM{P:Prop}(h:P:=by decide):P:=h
theorem Zz{P:Prop}(h:P:=by kernel_rfl):P:=h
def fQ(l:List UInt8):Value:= .string ⟨l.toArray⟩
def GT:List (Nat×List Value):=
 (3,[fQ [114,101,108],fQ [105,110,116],fQ [115,121,109],fQ [110,111,116],fQ [99,111,117,110,116],fQ [115,117,109],fQ [109,105,110],fQ [109,97,120]])::
 (2,[fQ [58,45],fQ [33,61],fQ [60,61],fQ [62,61],fQ [40],fQ [41],fQ [44],fQ [46],fQ [61],fQ [60],fQ [62],fQ [43],fQ [45],fQ [42]])::
 (0,[fQ [99,111,117,110,116],fQ [115,117,109],fQ [109,105,110],fQ [109,97,120]])::
 (1,[fQ [61],fQ [33,61],fQ [60],fQ [60,61],fQ [62],fQ [62,61]])::
 (7,(Kh 20).map fun i=>Value.int .u64 ((10 ^ i:Nat):Int))::
  []
def GI:List Nat:=
 4::
 5::
  []
end Go.Proofs.YtgbiopfghdilnaaGreatDoor
namespace Go.Proofs.YtgbiopfghdilnaaGreatDoor
open Go.RowKit
inductive Sh where
 |leaf
 |agg (n:Nat)
 deriving DecidableEq,Inhabited
def Sh.size:Sh→Nat
 | .leaf=>1
 | .agg n=>n
inductive Own where
 |nil
 |full
 |tok (n:Nat)
 |free
 deriving DecidableEq,Inhabited
inductive V where
 |bool (b:Bool)
 |int (k:IntKind) (n:Int)
 |str (s:ByteArray)
 |nilPtr
 |ptr (n:Nat) (k:Sh) (i o:Nat)
 |ept (k:Sh) (es:List V) (i o:Nat)
 |sl (k:Sh) (own:Own) (es:List V)
 |rs (n:Nat) (k:Sh) (off len:Nat)
 |aAH
 |map (n:Nat)
 |aAM
 |chan (n:Nat)
 |fn (f:Fn) (first cap:List V)
 |aAW
 |yld (n:Nat)
 |iface (t:Nat) (v:V)
 |nilIface
 |agg (cs:List V)
 |tup (vs:List V)
 |top
 deriving Inhabited
def V.undef:V:= .tup []
def V.aAE:V→Bool
 | .agg _=>false
 | .tup _=>false
 | .top=>false
 |_=>true
def V.cells:V→List V
 | .agg cs=>cs
 |v=>[v]
def V.cell(e:V)(j:Nat):V:=e.cells.getD j V.undef
def V.fits:Sh→V→Bool
 | .leaf,v=>v.aAE
 | .agg n, .agg cs=>decide (cs.length=n)&&cs.all V.aAE
 | .agg _,_=>false
structure Ker where
 w:World
 mu:Nat→Nat
 imm:Nat→Nat
 tp:Nat→Nat
 live:Nat→Prop
 fro:Nat→Prop
def Ker.still(K:Ker)(b o:Nat):Prop:=K.fro b∨o<K.imm b
def fM(w:World)(b:Nat):Prop:=w.heap[b]?=some (.deferred (some []))
structure nL(F:Nat→Prop)(w w':World):Prop where
 os:w'.os=w.os
 tape:w'.tape=w.tape
 output:w'.output=w.output
 drawn:w.drawn≤w'.drawn
 size:w.heap.size≤w'.heap.size
 block:∀b,b<w.heap.size→F b∨fM w b→w'.heap[b]?=w.heap[b]?
theorem nL.refl(F:Nat→Prop)(w:World):nL F w w:=⟨rfl,rfl,rfl,Ki _,Ki _,fun _ _ _=>rfl⟩
theorem nL.trans{F:Nat→Prop}{a b c:World}(h:nL F a b)(k:nL F b c):nL F a c:=
 ⟨k.os.trans h.os,k.tape.trans h.tape,k.output.trans h.output,Ks h.drawn k.drawn,Ks h.size k.size,fun i hi hF=>(k.block i (Kb hi h.size) (hF.imp (fun h=>h) fun hm=>(h.block i hi (.inr hm)).trans hm)).trans (h.block i hi hF)⟩
theorem nL.drew{F:Nat→Prop}(w:World):nL F w w.drew:=⟨rfl,rfl,rfl,Nat.le_succ _,Ki _,fun _ _ _=>rfl⟩
theorem nL.alloc{F:Nat→Prop}(w:World)(o:Obj):nL F w (w.alloc o):=⟨rfl,rfl,rfl,Ki _,Zm,fun k hk _=>Below.heap_alloc w o k hk⟩
inductive VR(K:Ker):V→Value→Prop where
 |bool (b:Bool):VR K (.bool b) (.bool b)
 |int (k:IntKind) (n:Int):VR K (.int k n) (.int k n)
 |str (s:ByteArray):VR K (.str s) (.string s)
 |nilPtr:VR K .nilPtr (.pointer none)
 |ptr (n:Nat) (k:Sh) (i o:Nat) (h:K.live n):VR K (.ptr n k i o) (.pointer (some ⟨K.mu n,i*k.size+o,none⟩))
 |ept (k:Sh) (es:List V) (i o b off:Nat) (f:Nat→Value) (hb:b<K.w.heap.size) (aAK:∀e∈es,e.fits k=true)
  (hcell:∀j,j<es.length*k.size→K.w.cell? ⟨b,off+j,none⟩=some (f j)) (hst:∀j,j<es.length*k.size→K.still b (off+j))
  (hv:∀i,i<es.length→∀j,j<k.size→VR K ((es.getD i V.undef).cell j) (f (i*k.size+j))):
  VR K (.ept k es i o) (.pointer (some ⟨b,off+(i*k.size+o),none⟩))
 |slnil (k:Sh):VR K (.sl k .nil []) (.slice none 0 0)
 |slz (k:Sh) (a:Addr):VR K (.sl k .free []) (.slice (some a) 0 0)
 |sl (k:Sh) (own:Own) (es:List V) (b off cap:Nat) (f:Nat→Value) (hb:b<K.w.heap.size) (aAK:∀e∈es,e.fits k=true)
  (hcell:∀j,j<es.length*k.size→K.w.cell? ⟨b,off+j,none⟩=some (f j)) (hst:∀j,j<es.length*k.size→K.still b (off+j))
  (hv:∀i,i<es.length→∀j,j<k.size→VR K ((es.getD i V.undef).cell j) (f (i*k.size+j)))
  (hcap:es.length≤cap) (aAf:own≠ .nil) (aAa:own= .full→cap=es.length)
  (aAy:∀n,own= .tok n→K.live n∧(cap=es.length∨K.mu n=b∧K.tp n=off+es.length*k.size∧∃T m,K.w.shape? b=some (T,m)∧off+cap*k.size≤m)):
  VR K (.sl k own es) (.slice (some ⟨b,off,none⟩) es.length cap)
 |rs (n:Nat) (k:Sh) (off len cap:Nat) (h:K.live n) (hcap:len≤cap) (hm:∃T m,K.w.shape? (K.mu n)=some (T,m)∧(off+cap)*k.size=m):
  VR K (.rs n k off len) (.slice (some ⟨K.mu n,off*k.size,none⟩) len cap)
 |aAH:VR K .aAH (.map none)
 |map (n:Nat) (h:K.live n):VR K (.map n) (.map (some (K.mu n)))
 |aAM:VR K .aAM (.chan none)
 |chan (n:Nat) (h:K.live n):VR K (.chan n) (.chan (some (K.mu n)))
 |fn (f:Fn) (first cap:List V) (cfirst ccap:Array Value) (h1:first.length=cfirst.size) (h2:cap.length=ccap.size)
  (v1:∀i,i<first.length→VR K (first.getD i V.undef) (cfirst.getD i Ke)) (v2:∀i,i<cap.length→VR K (cap.getD i V.undef) (ccap.getD i Ke)):
  VR K (.fn f first cap) (.func f cfirst ccap)
 |aAW:VR K .aAW .nilFunc
 |yld (n:Nat) (h:K.live n):VR K (.yld n) (.func (.yield (K.mu n)) #[] #[])
 |iface (t:Nat) (v:V) (cv:Value) (h:VR K v cv):VR K (.iface t v) (.iface t cv)
 |nilIface:VR K .nilIface .nilIface
 |agg (cs:List V) (ccs:Array Value) (h:cs.length=ccs.size) (v:∀i,i<cs.length→VR K (cs.getD i V.undef) (ccs.getD i Ke)):VR K (.agg cs) (.agg ccs)
 |tup (cs:List V) (ccs:Array Value) (h:cs.length=ccs.size) (v:∀i,i<cs.length→VR K (cs.getD i V.undef) (ccs.getD i Ke)):VR K (.tup cs) (.tuple ccs)
 |top (cv:Value):VR K .top cv
structure Ker.le(K K':Ker):Prop where
 live:∀n,K.live n→K'.live n
 mu:∀n,K.live n→K'.mu n=K.mu n
 tp:∀n,K.live n→K'.tp n=K.tp n
 fro:K'.fro=K.fro
 imm:∀b,b<K.w.heap.size→K.imm b≤K'.imm b
 cell:∀b o,b<K.w.heap.size→K.still b o→K'.w.cell? ⟨b,o,none⟩=K.w.cell? ⟨b,o,none⟩
 shape:∀b,b<K.w.heap.size→K'.w.shape? b=K.w.shape? b
 below:nL K.fro K.w K'.w
theorem Ker.le.refl(K:Ker):K.le K:=⟨fun _ h=>h,fun _ _=>rfl,fun _ _=>rfl,rfl,fun _ _=>Ki _,fun _ _ _ _=>rfl,fun _ _=>rfl,nL.refl _ _⟩
theorem Ker.le.still{K K':Ker}(h:K.le K'){b o:Nat}(hb:b<K.w.heap.size)(hs:K.still b o):K'.still b o:=by
 rcases hs with hs|hs
 ·exact .inl (by rw[h.fro];exact hs)
 exact .inr (Kb hs (h.imm b hb))
theorem Ker.le.trans{K K' K'':Ker}(h:K.le K')(h':K'.le K''):K.le K'' where
 live n hn:=h'.live n (h.live n hn)
 mu n hn:=(h'.mu n (h.live n hn)).trans (h.mu n hn)
 tp n hn:=(h'.tp n (h.live n hn)).trans (h.tp n hn)
 fro:=h'.fro.trans h.fro
 imm b hb:=Ks (h.imm b hb) (h'.imm b (Kb hb h.below.size))
 cell b o hb hs:=(h'.cell b o (Kb hb h.below.size) (h.still hb hs)).trans (h.cell b o hb hs)
 shape b hb:=(h'.shape b (Kb hb h.below.size)).trans (h.shape b hb)
 below:=h.below.trans (h.fro▸h'.below)
structure Ker.leV(K K':Ker):Prop where
 live:∀n,K.live n→K'.live n
 mu:∀n,K.live n→K'.mu n=K.mu n
 tp:∀n,K.live n→K'.tp n=K.tp n
 fro:K'.fro=K.fro
 imm:∀b,b<K.w.heap.size→K.imm b≤K'.imm b
 cell:∀b o,b<K.w.heap.size→K.still b o→K'.w.cell? ⟨b,o,none⟩=K.w.cell? ⟨b,o,none⟩
 shape:∀b,b<K.w.heap.size→K'.w.shape? b=K.w.shape? b
 size:K.w.heap.size≤K'.w.heap.size
theorem Ker.le.toV{K K':Ker}(h:K.le K'):K.leV K':=⟨h.live,h.mu,h.tp,h.fro,h.imm,h.cell,h.shape,h.below.size⟩
theorem Ker.leV.refl(K:Ker):K.leV K:=(Ker.le.refl K).toV
theorem Ker.leV.still{K K':Ker}(h:K.leV K'){b o:Nat}(hb:b<K.w.heap.size)(hs:K.still b o):K'.still b o:=by
 rcases hs with hs|hs
 ·exact .inl (by rw[h.fro];exact hs)
 exact .inr (Kb hs (h.imm b hb))
theorem Ker.leV.trans{K K' K'':Ker}(h:K.leV K')(h':K'.leV K''):K.leV K'' where
 live n hn:=h'.live n (h.live n hn)
 mu n hn:=(h'.mu n (h.live n hn)).trans (h.mu n hn)
 tp n hn:=(h'.tp n (h.live n hn)).trans (h.tp n hn)
 fro:=h'.fro.trans h.fro
 imm b hb:=Ks (h.imm b hb) (h'.imm b (Kb hb h.size))
 cell b o hb hs:=(h'.cell b o (Kb hb h.size) (h.still hb hs)).trans (h.cell b o hb hs)
 shape b hb:=(h'.shape b (Kb hb h.size)).trans (h.shape b hb)
 size:=Ks h.size h'.size
theorem VR.aAk{K K':Ker}(h:K.leV K'){v:V}{cv:Value}(r:VR K v cv):VR K' v cv:=by
 induction r with
 |bool b=>exact .bool b
 |int k n=>exact .int k n
 |str s=>exact .str s
 |nilPtr=>exact .nilPtr
 |ptr n k i o hn=>rw[←h.mu n hn];exact .ptr n k i o (h.live n hn)
 |ept k es i o b off f hb aAK hcell hst hv ih=>
  exact .ept k es i o b off f (Kb hb h.size) aAK (fun j hj=>(h.cell b _ hb (hst j hj)).trans (hcell j hj)) (fun j hj=>h.still hb (hst j hj)) ih
 |slnil k=>exact .slnil k
 |slz k a=>exact .slz k a
 |sl k own es b off cap f hb aAK hcell hst hv hcap aAf aAa aAy ih=>
  refine .sl k own es b off cap f (Kb hb h.size) aAK (fun j hj=>(h.cell b _ hb (hst j hj)).trans (hcell j hj)) (fun j hj=>h.still hb (hst j hj)) ih hcap aAf aAa ?_;intro n hn;obtain⟨a,q⟩:=aAy n hn;refine⟨h.live n a,?_⟩;rcases q with q|⟨c,d,T,m,g,i⟩
  ·exact .inl q
  exact .inr ⟨(h.mu n a).trans c,(h.tp n a).trans d,T,m,(h.shape b hb).trans g,i⟩
 |rs n k off len cap hn hcap hm=>
  rw[←h.mu n hn];refine .rs n k off len cap (h.live n hn) hcap ?_;obtain⟨T,m,a,b⟩:=hm;refine⟨T,m,?_,b⟩;rw[h.mu n hn,h.shape _ ?_]
  ·exact a
  unfold Kq at a;rcases KD (K.mu n) K.w.heap.size with hlt|hge
  ·exact hlt
  rw[Kv hge] at a;exact absurd a Zm
 |aAH=>exact .aAH
 |map n hn=>rw[←h.mu n hn];exact .map n (h.live n hn)
 |aAM=>exact .aAM
 |chan n hn=>rw[←h.mu n hn];exact .chan n (h.live n hn)
 |fn f first cap cfirst ccap h1 h2 _ _ v1 v2=>exact .fn f first cap cfirst ccap h1 h2 v1 v2
 |aAW=>exact .aAW
 |yld n hn=>rw[←h.mu n hn];exact .yld n (h.live n hn)
 |iface t v cv _ ih=>exact .iface t v cv ih
 |nilIface=>exact .nilIface
 |agg cs ccs hl _ ih=>exact .agg cs ccs hl ih
 |tup cs ccs hl _ ih=>exact .tup cs ccs hl ih
 |top cv=>exact .top cv
theorem VR.mono{K K':Ker}(h:K.le K'){v:V}{cv:Value}(r:VR K v cv):VR K' v cv:=r.aAk h.toV
def VRs(K:Ker)(vs:List V)(cvs:Array Value):Prop:=vs.length=cvs.size∧∀i,i<vs.length→VR K (vs.getD i V.undef) (cvs.getD i Ke)
theorem VRs.mono{K K':Ker}(h:K.le K'){vs:List V}{cvs:Array Value}(r:VRs K vs cvs):VRs K' vs cvs:=⟨r.1,fun i hi=>(r.2 i hi).mono h⟩
theorem VR.undef(K:Ker):VR K V.undef Ke:= .tup [] #[] rfl (fun i hi=>absurd hi Zm)
theorem VR.aBP{K:Ker}{v:V}{cv:Value}(r:VR K v cv)(h:v.aAE=true):cv.oneCell'=true:=by
 cases r<;>first|rfl|(simp[V.aAE] at h)
theorem VR.cells{K:Ker}{k:Sh}{v:V}{cv:Value}(r:VR K v cv)(h:v.fits k=true):
 v.cells.length=k.size∧cv.cells.size=k.size∧(∀j,j<k.size→VR K (v.cell j) (cv.cells.getD j Ke))∧(∀j,j<k.size→(v.cell j).aAE=true):=by
 cases k with
 |leaf=>
  simp only[V.fits] at h;have e1:v.cells=[v]:=by cases v<;>first|rfl|(simp[V.aAE] at h)
  have e2:cv.cells=#[cv]:=by cases r<;>first|rfl|(simp[V.aAE] at h)
  refine⟨by rw[e1];rfl,by rw[e2];rfl,?_,?_⟩
  ·intro j hj;have:j=0:=by simp[Sh.size] at hj;exact hj
   subst this;unfold V.cell;rw[e1,e2];exact r
  intro j hj;have:j=0:=by simp[Sh.size] at hj;exact hj
  subst this;unfold V.cell;rw[e1];exact h
 |agg n=>
  cases r with
  |agg cs ccs hl hv=>
   simp only[V.fits,Kg,decide_eq_true_eq,Kj] at h;obtain⟨h1,h2⟩:=h;refine⟨h1,by show ccs.size=n;omega,fun j hj=>hv j (by simp only[Sh.size] at hj;omega),?_⟩;intro j hj;simp only[Sh.size] at hj;have hj':j<cs.length:=or;show(cs.getD j V.undef).aAE=true;rw[Ka,Kc hj'];exact h2 _ (Kk _)
  |_=>simp[V.fits] at h
theorem VR.aDX{K:Ker}{n:Nat}{v:V}{ccs:Array Value}(h:v.fits (.agg n)=true)(hs:ccs.size=n)(hv:∀j,j<n→VR K (v.cell j) (ccs.getD j Ke)):VR K v (.agg ccs):=by
 cases v with
 |agg cs=>
  simp only[V.fits,Kg,decide_eq_true_eq] at h;exact .agg cs ccs or (fun i hi=>hv i or)
 |_=>simp[V.fits] at h
structure ME where
 k:V
 v:V
 b:Nat
 deriving Inhabited
inductive Blk where
 |arr (k:Sh) (es:List V)
 |tip
 |obj (o:Obj) (U:Ker→Prop)
 |mp (es:List ME) (c:Nat)
 |mit (m since:Nat) (seen:List Nat) (last:Nat)
 deriving Inhabited
def Blk.mem:Blk→Bool
 | .arr _ _=>true
 | .mp _ _=>true
 |_=>false
abbrev Hp:=Nat→Option Blk
def Hp.set(h:Hp)(n:Nat)(b:Blk):Hp:=fun m=>if m=n then some b else h m
def Hp.del(h:Hp)(n:Nat):Hp:=fun m=>if m=n then none else h m
def Hp.le(h h':Hp):Prop:=∀n b,h n=some b→h' n=some b
theorem Hp.le_refl(h:Hp):h.le h:=fun _ _ e=>e
def fW:Obj→Bool
 | .cells .. =>false
 | .deferred .. =>false
 |_=>true
inductive BR(K:Ker)(n:Nat):Blk→Prop where
 |arr (k:Sh) (es:List V) (c:Array Value) (T:Nat) (hh:K.w.heap[K.mu n]?=some (.cells c T (0,0))) (hsz:es.length*k.size≤c.size) (hi:K.imm (K.mu n)=0)
  (aAK:∀e∈es,e.fits k=true) (hv:∀i,i<es.length→∀j,j<k.size→VR K ((es.getD i V.undef).cell j) (c.getD (i*k.size+j) Ke)):BR K n (.arr k es)
 |tip (c:Array Value) (T:Nat) (hh:K.w.heap[K.mu n]?=some (.cells c T (0,0))) (hi:K.imm (K.mu n)=K.tp n) (ht:K.tp n≤c.size):BR K n .tip
 |obj (o:Obj) (U:Ker→Prop) (hh:K.w.heap[K.mu n]?=some o) (ho:fW o=true) (hu:U K) (hU:∀A B:Ker,A.leV B→U A→U B):BR K n (.obj o U)
 |mp (es:List ME) (c:Nat) (ces:Array MapEntry) (hh:K.w.heap[K.mu n]?=some (.map ces c)) (hl:es.length=ces.size)
  (hv:∀i,i<es.length→VR K (es.getD i default).k (ces.getD i default).key∧VR K (es.getD i default).v (ces.getD i default).val∧(ces.getD i default).born=(es.getD i default).b):BR K n (.mp es c)
 |mit (m since:Nat) (seen:List Nat) (last:Nat) (hh:K.w.heap[K.mu n]?=some (.mapIter (some (K.mu m)) since seen.toArray last)) (hm:K.live m):BR K n (.mit m since seen last)
structure gG(K:Ker):Prop where
 lt:∀b,K.fro b→b<K.w.heap.size
 gt:∀g cs,(g,cs)∈GT→K.fro g∧(∃T,K.w.shape? g=some (T,cs.length))∧∀o,o<cs.length→K.w.cell? ⟨g,o,none⟩=some (cs.getD o Ke)
 gi:∀g,g∈GI→K.fro g∧∃ev,K.w.cell? ⟨g,0,none⟩=some ev∧(ev= .nilIface∨∃te pe,ev= .iface te pe)
theorem gG.aCi{K K':Ker}(f:gG K)(hle:K.leV K'):gG K':=
 ⟨fun b hb=>by rw[hle.fro] at hb;exact Kb (f.lt b hb) hle.size,fun g cs hm=>⟨by rw[hle.fro];exact(f.gt g cs hm).1,by obtain⟨h1,⟨T,h2⟩,h3⟩:=f.gt g cs hm;exact⟨⟨T,(hle.shape g (f.lt g h1)).trans h2⟩,fun o ho=>(hle.cell g o (f.lt g h1) (.inl h1)).trans (h3 o ho)⟩⟩,
   fun g hm=>⟨by rw[hle.fro];exact(f.gi g hm).1,by obtain⟨h1,ev,h2,h3⟩:=f.gi g hm;exact⟨ev,(hle.cell g 0 (f.lt g h1) (.inl h1)).trans h2,h3⟩⟩⟩
theorem gG.keep{K K':Ker}(f:gG K)(hle:K.le K'):gG K':=f.aCi hle.toV
theorem gG.all{K:Ker}(f:gG K):gG {K with fro:=fun b=>b<K.w.heap.size}:=⟨fun _ hb=>hb,fun g cs hm=>⟨f.lt g (f.gt g cs hm).1,(f.gt g cs hm).2⟩,fun g hm=>⟨f.lt g (f.gi g hm).1,(f.gi g hm).2⟩⟩
theorem gG.re{K K':Ker}(f:gG K)(h1:K'.w=K.w)(h2:K'.fro=K.fro):gG K':=by
 obtain⟨a,b,c⟩:=f;exact⟨by rw[h1,h2];exact a,by rw[h1,h2];exact b,by rw[h1,h2];exact c⟩
structure Rel(K:Ker)(h:Hp):Prop where
 lt:∀n b,h n=some b→K.live n
 base:∀n b,h n=some b→¬K.fro (K.mu n)
 blk:∀n b,h n=some b→BR K n b
 inj:∀n n' b b',h n=some b→h n'=some b'→K.mu n=K.mu n'→n=n'
 size:gG K
theorem Rel.weaken{K:Ker}{h h':Hp}(r:Rel K h)(hl:h'.le h):Rel K h':=
 ⟨fun n b e=>r.lt n b (hl n b e),fun n b e=>r.base n b (hl n b e),fun n b e=>r.blk n b (hl n b e),fun n n' b b' e e'=>r.inj n n' b b' (hl n b e) (hl n' b' e'),r.size⟩
theorem BR.lt_size{K:Ker}{n:Nat}{b:Blk}(r:BR K n b):K.mu n<K.w.heap.size:=by
 have key:∀o,K.w.heap[K.mu n]?=some o→K.mu n<K.w.heap.size:=fun o ho=>by
  rcases KD (K.mu n) K.w.heap.size with hlt|hge
  ·exact hlt
  rw[Kv hge] at ho;exact absurd ho Zm
 cases r with
 |arr k es c T hh=>exact key _ hh
 |tip c T hh=>exact key _ hh
 |obj o U hh=>exact key _ hh
 |mp es c ces hh=>exact key _ hh
 |mit m since seen last hh=>exact key _ hh
theorem BR.aAk{K K':Ker}{n:Nat}{b:Blk}(h:K.leV K')(hn:K.live n)(hh:K'.w.heap[K.mu n]?=K.w.heap[K.mu n]?)(hi:K'.imm (K.mu n)=K.imm (K.mu n))(r:BR K n b):BR K' n b:=by
 have em:=h.mu n hn;have et:=h.tp n hn;cases r with
 |arr k es c T hc hsz hi' aAK hv=>exact .arr k es c T (by rw[em,hh];exact hc) hsz (by rw[em,hi];exact hi') aAK (fun i hi j hj=>(hv i hi j hj).aAk h)
 |tip c T hc hi' ht=>exact .tip c T (by rw[em,hh];exact hc) (by rw[em,hi,et];exact hi') (by rw[et];exact ht)
 |obj o U ho hc hu hU=>exact .obj o U (by rw[em,hh];exact ho) hc (hU _ _ h hu) hU
 |mp es c ces hc hl hv=>exact .mp es c ces (by rw[em,hh];exact hc) hl (fun i hi=>⟨(hv i hi).1.aAk h,(hv i hi).2.1.aAk h,(hv i hi).2.2⟩)
 |mit m since seen last ho hm=>exact .mit m since seen last (by rw[em,hh,h.mu m hm];exact ho) (h.live m hm)
theorem BR.mono{K K':Ker}{n:Nat}{b:Blk}(h:K.le K')(hn:K.live n)(hh:K'.w.heap[K.mu n]?=K.w.heap[K.mu n]?)(hi:K'.imm (K.mu n)=K.imm (K.mu n))(r:BR K n b):BR K' n b:=r.aAk h.toV hn hh hi
theorem Rel.aCi{K K':Ker}{h:Hp}(r:Rel K h)(hle:K.leV K')(hh:∀n b,h n=some b→K'.w.heap[K.mu n]?=K.w.heap[K.mu n]?∧K'.imm (K.mu n)=K.imm (K.mu n)):Rel K' h where
 lt n b e:=hle.live n (r.lt n b e)
 base n b e:=by rw[hle.fro,hle.mu n (r.lt n b e)];exact r.base n b e
 blk n b e:=(r.blk n b e).aAk hle (r.lt n b e) (hh n b e).1 (hh n b e).2
 inj n n' b b' e e' em:=by
  rw[hle.mu n (r.lt n b e),hle.mu n' (r.lt n' b' e')] at em;exact r.inj n n' b b' e e' em
 size:=r.size.aCi hle
theorem Rel.keep{K K':Ker}{h:Hp}(r:Rel K h)(hle:K.le K')(hh:∀n b,h n=some b→K'.w.heap[K.mu n]?=K.w.heap[K.mu n]?∧K'.imm (K.mu n)=K.imm (K.mu n)):Rel K' h:=r.aCi hle.toV hh
def Ker.push(K:Ker)(a:Nat)(o:Obj)(m:Nat):Ker:=
 {w:=K.w.alloc o,mu:=fun n=>if n=a then K.w.heap.size else K.mu n,imm:=fun b=>if b=K.w.heap.size then m else K.imm b,
  tp:=fun n=>if n=a then m else K.tp n,live:=fun n=>n=a∨K.live n,fro:=K.fro}
theorem dR(w:World)(o:Obj)(b:Nat)(hb:b<w.heap.size):(w.alloc o).heap[b]?=w.heap[b]?:=Below.heap_alloc w o b hb
theorem cE(w:World)(o:Obj):(w.alloc o).heap[w.heap.size]?=some o:=by
 show(w.heap.push o)[w.heap.size]?=some o;simp
theorem rC(w:World)(o:Obj):(w.alloc o).heap.size=w.heap.size+1:=by
 show(w.heap.push o).size=_;simp
theorem gQ{w w':World}{b o:Nat}(h:w'.heap[b]?=w.heap[b]?):w'.cell? ⟨b,o,none⟩=w.cell? ⟨b,o,none⟩:=by simp only[Kx,h]
theorem iD{w w':World}{b:Nat}(h:w'.heap[b]?=w.heap[b]?):w'.shape? b=w.shape? b:=by simp only[Kq,h]
theorem Ker.aAw(K:Ker)(a:Nat)(ha:¬K.live a)(o:Obj)(m:Nat):K.le (K.push a o m) where
 live n hn:= .inr hn
 mu n hn:=by have:n≠a:=fun e=>ha (e▸hn);simp[Ker.push,this]
 tp n hn:=by have:n≠a:=fun e=>ha (e▸hn);simp[Ker.push,this]
 fro:=rfl
 imm b hlt:=by simp[Ker.push,KE hlt]
 cell b o' hlt _:=gQ (dR _ _ _ hlt)
 shape b hlt:=iD (dR _ _ _ hlt)
 below:=nL.alloc _ o
theorem Rel.push{K:Ker}{h:Hp}(r:Rel K h){a:Nat}(ha:¬K.live a)(o:Obj)(m:Nat):Rel (K.push a o m) h:=
 r.keep (K.aAw a ha o m) fun n b e=>by
  have hlt:=(r.blk n b e).lt_size;exact⟨dR _ _ _ hlt,by simp[Ker.push,KE hlt]⟩
theorem Rel.set_push{K:Ker}{h:Hp}(r:Rel K h){a:Nat}(ha:¬K.live a)(o:Obj)(m:Nat){b:Blk}(hb:BR (K.push a o m) a b):Rel (K.push a o m) (h.set a b):=by
 have r':=r.push ha o m;have hmu:(K.push a o m).mu a=K.w.heap.size:=by simp[Ker.push]
 have hne:∀n b',h n=some b'→(K.push a o m).mu n<K.w.heap.size:=fun n b' e=>by
  have hlt:=(r.blk n b' e).lt_size;rw[(K.aAw a ha o m).mu n (r.lt n b' e)];exact hlt
 refine⟨?_,?_,?_,?_,r'.size⟩
 ·intro n b' e;unfold Hp.set at e;split at e
  ·rename_i hn;exact .inl hn
  exact r'.lt n b' e
 ·intro n b' e;unfold Hp.set at e;split at e
  ·rename_i hn;rw[hn,hmu];exact fun h=>Nat.lt_irrefl _ (r.size.lt _ h)
  exact r'.base n b' e
 ·intro n b' e;unfold Hp.set at e;split at e
  ·rename_i hn;injection e with e;rw[hn,←e];exact hb
  exact r'.blk n b' e
 intro n n' b1 b2 e1 e2 em;unfold Hp.set at e1 e2;split at e1<;>split at e2
 ·omega
 ·rename_i hn hn';rw[hn,hmu] at em;have:=hne n' b2 e2;omega
 ·rename_i hn hn';rw[hn',hmu] at em;have:=hne n b1 e1;omega
 exact r'.inj n n' b1 b2 e1 e2 em
def Ker.drew(K:Ker):Ker:={K with w:=K.w.drew}
theorem Ker.le_drew(K:Ker):K.le K.drew:=⟨fun _ h=>h,fun _ _=>rfl,fun _ _=>rfl,rfl,fun _ _=>Ki _,fun _ _ _ _=>rfl,fun _ _=>rfl,nL.drew _⟩
theorem Rel.drew{K:Ker}{h:Hp}(r:Rel K h):Rel K.drew h:=r.keep K.le_drew fun _ _ _=>⟨rfl,rfl⟩
def Ker.row(K:Ker)(b:Nat)(c:Array Value):Ker:={K with w:=K.w.setRow b c}
theorem rQ(w:World)(b:Nat)(c cur:Array Value)(T:TypeId)(fr:Nat×Nat)(hg:w.heap[b]?=some (.cells cur T fr))(hs:c.size=cur.size)(b':Nat):(w.setRow b c).shape? b'=w.shape? b':=by
 by_cases e:b'=b
 ·subst e;simp only[Kq,setRow_heap w b' cur c T fr hg,hg,hs]
 simp only[Kq,setRow_other w b b' c e]
theorem vE(w:World)(b:Nat)(c:Array Value):(w.setRow b c).heap.size=w.heap.size:=by simp[World.setRow]
theorem bm{F:Nat→Prop}(w:World)(b:Nat)(c:Array Value)(hb:¬F b){cur:Array Value}{T:TypeId}{fr:Nat×Nat}(hg:w.heap[b]?=some (.cells cur T fr)):nL F w (w.setRow b c):=
 ⟨rfl,rfl,rfl,Ki _,by rw[vE];exact Ki _,fun k _ hk=>setRow_other w b k c (fun e=>hk.elim (fun hk=>hb (e▸hk)) fun hk=>by subst e;unfold fM at hk;rw[hg] at hk;cases hk)⟩
theorem Ker.aBK(K:Ker)(b:Nat)(c cur:Array Value)(T:TypeId)(hg:K.w.heap[b]?=some (.cells cur T (0,0)))(hs:c.size=cur.size)(hb:¬K.fro b)
 (aA9:∀o,o<K.imm b→c[o]?=cur[o]?):K.le (K.row b c) where
 live _ hn:=hn
 mu _ _:=rfl
 tp _ _:=rfl
 fro:=rfl
 imm _ _:=Ki _
 cell b' o hlt hst:=by
  by_cases e:b'=b
  ·subst e;rcases hst with h|h
   ·exact absurd h hb
   show((K.w.setRow b' c).cell? ⟨b',o,none⟩)=_;simp only[Kx,setRow_heap K.w b' cur c T (0,0) hg,hg,aA9 o h]
  exact gQ (setRow_other K.w b b' c e)
 shape b' _:=rQ K.w b c cur T (0,0) hg hs b'
 below:=bm K.w b c hb hg
theorem Rel.row{K:Ker}{h:Hp}(r:Rel K h){n:Nat}{b0 b1:Blk}(hn:h n=some b0)(c cur:Array Value)(T:TypeId)(hg:K.w.heap[K.mu n]?=some (.cells cur T (0,0)))(hs:c.size=cur.size)
 (aA9:∀o,o<K.imm (K.mu n)→c[o]?=cur[o]?) (hb:BR (K.row (K.mu n) c) n b1):Rel (K.row (K.mu n) c) (h.set n b1):=by
 have hle:=K.aBK (K.mu n) c cur T hg hs (r.base n b0 hn) aA9;refine⟨?_,?_,?_,?_,r.size.keep hle⟩
 ·intro m b' e;unfold Hp.set at e;split at e
  ·rename_i hm;subst hm;exact r.lt m b0 hn
  exact r.lt m b' e
 ·intro m b' e;unfold Hp.set at e;split at e
  ·rename_i hm;subst hm;exact r.base m b0 hn
  exact r.base m b' e
 ·intro m b' e;unfold Hp.set at e;split at e
  ·rename_i hm;subst hm;injection e with e;subst e;exact hb
  rename_i hm;refine(r.blk m b' e).mono hle (r.lt m b' e) ?_ rfl;exact setRow_other K.w (K.mu n) (K.mu m) c (fun em=>hm (r.inj m n b' b0 e hn em))
 intro m m' b1' b2' e1 e2 em;unfold Hp.set at e1 e2;have g:∀x bb,(if x=n then some b1 else h x)=some bb→∃b',h x=some b':=fun x bb hx=>by
  split at hx
  ·rename_i hm;subst hm;exact⟨b0,hn⟩
  exact⟨bb,hx⟩
 obtain⟨c1,d1⟩:=g m b1' e1;obtain⟨c2,d2⟩:=g m' b2' e2;exact r.inj m m' c1 c2 d1 d2 em
theorem cB{k i j n:Nat}(hj:j<k)(hi:i<n):i*k+j<n*k:=by
 have:(i+1)*k≤n*k:=Nat.mul_le_mul_right _ hi;rw[Nat.add_mul,Nat.one_mul] at this;omega
theorem pP{k j n:Nat}(h:j<n*k):j / k<n∧j % k<k∧j / k*k+j % k=j:=by
 have hk:0<k:=by
  rcases Nat.eq_zero_or_pos k with e|e
  ·subst e;simp at h
  exact e
 exact⟨Nat.div_lt_of_lt_mul (by rwa [Nat.mul_comm] at h),Nat.mod_lt _ hk,Nat.div_add_mod' j k⟩
mutual
def V.names(L:Nat→Prop):V→Prop
 | .ptr n _ _ _=>L n
 | .rs n _ _ _=>L n
 | .map n=>L n
 | .chan n=>L n
 | .yld n=>L n
 | .ept _ es _ _=>bD L es
 | .sl _ own es=>(∀n,own= .tok n→L n)∧bD L es
 | .fn _ a b=>bD L a∧bD L b
 | .iface _ v=>v.names L
 | .agg cs=>bD L cs
 | .tup vs=>bD L vs
 |_=>True
def bD(L:Nat→Prop):List V→Prop
 | []=>True
 |v::vs=>v.names L∧bD L vs
end
theorem kK{L:Nat→Prop}:∀{vs:List V},bD L vs↔∀v∈vs,v.names L
 | []=>by simp[bD]
 |v::vs=>by simp[bD,kK (vs:=vs)]
theorem eI{L:Nat→Prop}{vs:List V}(h:bD L vs)(i:Nat):(vs.getD i V.undef).names L:=by
 by_cases hi:i<vs.length
 ·rw[Ka,Kc hi];exact kK.1 h _ (Kk _)
 rw[Ka,List.getElem?_eq_none or];simp[V.undef,V.names,bD]
theorem dM{L:Nat→Prop}{vs:List V}(h:∀i,i<vs.length→(vs.getD i V.undef).names L):bD L vs:=by
 refine kK.2 fun v hv=>?_;obtain⟨i,hi,rfl⟩:=List.getElem_of_mem hv;have:=h i hi;rw[Ka,Kc hi] at this;exact this
theorem qT{L:Nat→Prop}{v:V}(h:v.names L)(j:Nat):(v.cell j).names L:=by
 have one:∀w:V,w.names L→((([w]:List V)).getD j V.undef).names L:=fun w hw=>eI (by simp[bD,hw]) j;cases v<;>first|exact one _ h|skip
 case agg cs=>exact eI (vs:=cs) (by simpa [V.names] using h) j
theorem yC{L:Nat→Prop}{k:Sh}{v:V}(hf:v.fits k=true)(h:∀j,j<k.size→(v.cell j).names L):v.names L:=by
 cases k with
 |leaf=>
  simp only[V.fits] at hf;have e1:v.cells=[v]:=by cases v<;>first|rfl|(simp[V.aAE] at hf)
  have:=h 0 (by simp[Sh.size]);simpa [V.cell,e1] using this
 |agg n=>
  cases v with
  |agg cs=>
   simp only[V.fits,Kg,decide_eq_true_eq] at hf;show bD L cs;exact dM fun i hi=>h i (by show i<n;omega)
  |_=>simp[V.fits] at hf
theorem bB{α:Type}{L:Nat→Prop}{f:α→V}(h:∀x,(f x).names L)(l:List α):bD L (l.map f):=by
 refine kK.2 fun v hv=>?_;obtain⟨x,_,rfl⟩:=List.mem_map.1 hv;exact h x
theorem VR.free{K:Ker}{k:Sh}{own:Own}{es:List V}{cv:Value}(r:VR K (.sl k own es) cv)(h:own≠ .nil):VR K (.sl k .free es) cv:=by
 cases r with
 |slnil=>exact absurd rfl h
 |slz=>exact .slz _ _
 |sl _ _ _ b off cap f hb aAK hcell hst hv hcap aAf aAa aAy=>exact .sl k .free es b off cap f hb aAK hcell hst hv hcap Zm Zm (fun n e=>by cases e)
def Ker.only(K:Ker)(L:Nat→Prop):Ker:={K with live:=L}
theorem VR.only{K:Ker}{v:V}{cv:Value}(r:VR K v cv)(L:Nat→Prop)(hn:v.names L):VR (K.only L) v cv:=by
 induction r with
 |bool b=>exact .bool b
 |int k n=>exact .int k n
 |str s=>exact .str s
 |nilPtr=>exact .nilPtr
 |ptr n k i o h=>exact .ptr n k i o hn
 |ept k es i o b off f hb aAK hcell hst hv ih=>exact .ept k es i o b off f hb aAK hcell hst fun i hi j hj=>ih i hi j hj (qT (eI hn i) j)
 |slnil k=>exact .slnil k
 |slz k a=>exact .slz k a
 |sl k own es b off cap f hb aAK hcell hst hv hcap aAf aAa aAy ih=>
  exact .sl k own es b off cap f hb aAK hcell hst (fun i hi j hj=>ih i hi j hj (qT (eI hn.2 i) j)) hcap aAf aAa fun n e=>⟨hn.1 n e,(aAy n e).2⟩
 |rs n k off len cap h hcap hm=>exact .rs n k off len cap hn hcap hm
 |aAH=>exact .aAH
 |map n h=>exact .map n hn
 |aAM=>exact .aAM
 |chan n h=>exact .chan n hn
 |fn f first cap cfirst ccap h1 h2 _ _ v1 v2=>exact .fn f first cap cfirst ccap h1 h2 (fun i hi=>v1 i hi (eI hn.1 i)) (fun i hi=>v2 i hi (eI hn.2 i))
 |aAW=>exact .aAW
 |yld n h=>exact .yld n hn
 |iface t v cv _ ih=>exact .iface t v cv (ih hn)
 |nilIface=>exact .nilIface
 |agg cs ccs hl _ ih=>exact .agg cs ccs hl fun i hi=>ih i hi (eI (vs:=cs) hn i)
 |tup cs ccs hl _ ih=>exact .tup cs ccs hl fun i hi=>ih i hi (eI (vs:=cs) hn i)
 |top cv=>exact .top cv
theorem VR.names{K:Ker}{v:V}{cv:Value}(r:VR K v cv):v.names K.live:=by
 have row:∀(k:Sh) (es:List V),(∀e∈es,e.fits k=true)→(∀i,i<es.length→∀j,j<k.size→((es.getD i V.undef).cell j).names K.live)→bD K.live es:=by
  intro k es aAK h;refine dM fun i hi=>yC (k:=k) ?_ (h i hi);rw[Ka,Kc hi];exact aAK _ (Kk _)
 induction r with
 |ptr n k i o h=>exact h
 |ept k es i o b off f hb aAK hcell hst hv ih=>exact row k es aAK ih
 |sl k own es b off cap f hb aAK hcell hst hv hcap aAf aAa aAy ih=>exact⟨fun n e=>(aAy n e).1,row k es aAK ih⟩
 |slnil k=>exact⟨(fun n e=>by cases e),trivial⟩
 |slz k a=>exact⟨(fun n e=>by cases e),trivial⟩
 |rs n k off len cap h hcap hm=>exact h
 |map n h=>exact h
 |chan n h=>exact h
 |yld n h=>exact h
 |fn f first cap cfirst ccap h1 h2 _ _ v1 v2=>exact⟨dM v1,dM v2⟩
 |iface t v cv _ ih=>exact ih
 |agg cs ccs hl _ ih=>exact dM (vs:=cs) ih
 |tup cs ccs hl _ ih=>exact dM (vs:=cs) ih
 |_=>trivial
mutual
theorem eH{L L':Nat→Prop}(h:∀n,L n→L' n):∀{v:V},v.names L→v.names L'
 | .ptr n _ _ _,q=>h n q
 | .rs n _ _ _,q=>h n q
 | .map n,q=>h n q
 | .chan n,q=>h n q
 | .yld n,q=>h n q
 | .ept _ es _ _,q=>eY h (vs:=es) q
 | .sl _ own es,q=>⟨fun n e=>h n (q.1 n e),eY h (vs:=es) q.2⟩
 | .fn _ a b,q=>⟨eY h (vs:=a) q.1,eY h (vs:=b) q.2⟩
 | .iface _ v,q=>eH h (v:=v) q
 | .agg cs,q=>eY h (vs:=cs) q
 | .tup vs,q=>eY h (vs:=vs) q
 | .bool _,_=>trivial
 | .int _ _,_=>trivial
 | .str _,_=>trivial
 | .nilPtr,_=>trivial
 | .aAH,_=>trivial
 | .aAM,_=>trivial
 | .aAW,_=>trivial
 | .nilIface,_=>trivial
 | .top,_=>trivial
theorem eY{L L':Nat→Prop}(h:∀n,L n→L' n):∀{vs:List V},bD L vs→bD L' vs
 | [],_=>trivial
 |v::vs,q=>⟨eH h (v:=v) q.1,eY h (vs:=vs) q.2⟩
end
theorem Rel.back{K K':Ker}{h:Hp}(r:Rel K h)(r':Rel K' h){L:Nat→Prop}(hle:K.leV (K'.only L))(hL:∀n,K.live n→L n):Rel (K'.only L) h:=by
 refine⟨fun n b e=>hL n (r.lt n b e),r'.base,fun n b e=>?_,r'.inj,r'.size.re rfl rfl⟩;have hb:=r.blk n b e;have hb':=r'.blk n b e;cases hb' with
 |arr k es c T hh hsz hi aAK hvs=>
  refine .arr k es c T hh hsz hi aAK fun i hi j hj=>(hvs i hi j hj).only L ?_;cases hb with
  |arr _ _ c0 T0 hh0 aMc hi0 aMv aMa=>
   have:=(aMa i hi j hj).names;generalize (es.getD i V.undef).cell j=x at this;exact eH hL this
 |tip c T hh hi ht=>exact .tip c T hh hi ht
 |obj o U hh ho _ hU=>cases hb with
  |obj _ _ _ _ hu _=>exact .obj o U hh ho (hU _ _ hle hu) hU
 |mp es c ces hh hl hv=>cases hb with
  |mp _ _ aVq hh0 hl0 hv0=>exact .mp es c ces hh hl fun i hi=>⟨(hv i hi).1.only L (eH hL (hv0 i hi).1.names),(hv i hi).2.1.only L (eH hL (hv0 i hi).2.1.names),(hv i hi).2.2⟩
 |mit m since seen last hh hm=>cases hb with
  |mit _ _ _ _ hh0 hm0=>exact .mit m since seen last hh (hL m hm0)
def bV(P:Program)(t:TypeId):Option Sh:=
 match P.info? t with
 |none=>none
 |some i=>match P.underlying t with
  |some (.struct _)=>some (.agg i.size)
  |some (.array _ _)=>some (.agg i.size)
  |some _=>if i.size=1 then some .leaf else none
  |none=>none
inductive aI where
 |slot (t:Nat)
 |const (v:V)
 deriving Inhabited
def aI.ev(sl:List V):aI→V
 | .slot t=>sl.getD t V.undef
 | .const v=>v
def wT(P:Program)(t:TypeId):Value→Option V
 | .bool b=>some (.bool b)
 | .int k n=>some (.int k n)
 | .string s=>some (.str s)
 | .pointer none=>some .nilPtr
 | .slice none 0 0=>match P.underlying t with
  |some (.slice e)=>(bV P e).map fun k=> .sl k .nil []
  |_=>some (.sl .leaf .nil [])
 | .map none=>some .aAH
 | .chan none=>some .aAM
 | .nilFunc=>some .aAW
 | .nilIface=>some .nilIface
 |_=>none
def wO(P:Program):Nat→TypeId→List TypeId
 |0,t=>[t]
 |d+1,t=>match P.underlying t with
  |some (.struct fs)=>fs.toList.flatMap fun f=>wO P d f.type
  |some (.array n e)=>(List.replicate n (wO P d e)).flatten
  |_=>[t]
def iC(P:Program):List TypeId→List Value→Option (List V)
 |_,[]=>some []
 |ts,v::vs=>match wT P (ts.headD 0) v,iC P ts.tail vs with
  |some x,some xs=>some (x::xs)
  |_,_=>none
def wH(P:Program)(t:TypeId):Value→Option V
 | .agg cs=>(iC P (wO P 12 t) cs.toList).map .agg
 | .tuple cs=>if cs.isEmpty then some (.tup []) else none
 |v=>wT P t v
def BW(P:Program)(g:Nat):Option V:=
 ((P.globals[g]?).bind fun gl=>bV P gl.type).bind fun k=>(GT.find? fun p=>p.1==g).bind fun p=>(iC P [] p.2).bind fun vs=>
   match k,vs with
   | .leaf,[v]=>some (.ept .leaf [v] 0 0)
   | .agg n,vs=>if vs.length=n then some (.ept (.agg n) [.agg vs] 0 0) else none
   |_,_=>none
def aL(P:Program)(t:TypeId):Operand→Option aI
 | .tmp n=>some (.slot n)
 | .const v=>(wH P t v).map .const
 | .func f=>some (.const (.fn (.func f) [] []))
 | .global g=>(BW P g).map .const
theorem qI{P:Program}{t:TypeId}{cv:Value}{v:V}(h:wT P t cv=some v)(K:Ker):VR K v cv∧v.aAE=true:=by
 unfold wT at h;split at h;case h_5=>
  split at h
  ·rename_i e _;cases hs:bV P e with
   |none=>simp[hs] at h
   |some k=>simp[hs] at h;subst h;exact⟨.slnil k,rfl⟩
  injection h with h;subst h;exact⟨.slnil _,rfl⟩
 all_goals first
  |(injection h with h;subst h;first|exact⟨.bool _,rfl⟩|exact⟨.int _ _,rfl⟩|exact⟨.str _,rfl⟩|exact⟨.nilPtr,rfl⟩|exact⟨.aAH,rfl⟩|exact⟨.aAM,rfl⟩|exact⟨.aAW,rfl⟩|exact⟨.nilIface,rfl⟩)
  |simp at h
theorem iU{P:Program}(K:Ker):∀(cs:List Value) (ts:List TypeId) (vs:List V),iC P ts cs=some vs→
 vs.length=cs.length∧(∀i,i<vs.length→VR K (vs.getD i V.undef) (cs.getD i Ke))∧vs.all V.aAE=true
 | [],ts,vs,h=>by
  simp[iC] at h;subst h;exact⟨rfl,fun i hi=>absurd hi Zm,rfl⟩
 |c::cs,ts,vs,h=>by
  unfold iC at h;split at h
  ·rename_i x xs h1 h2;injection h with h;subst h;obtain⟨a,b,d⟩:=iU K cs _ xs h2;obtain⟨e,f⟩:=qI h1 K;refine⟨by simp[a],?_,by simp[f,d]⟩;intro i hi;cases i with
   |zero=>simpa using e
   |succ i=>simpa using b i (by simpa using hi)
  simp at h
theorem cX{P:Program}{t:TypeId}{cv:Value}{v:V}(h:wH P t cv=some v)(K:Ker):VR K v cv:=by
 unfold wH at h;split at h
 ·rename_i cs;cases hl:iC P (wO P 12 t) cs.toList with
  |none=>simp[hl] at h
  |some vs=>
   simp[hl] at h;subst h;obtain⟨a,b,_⟩:=iU K cs.toList _ vs hl;refine .agg vs cs (by simpa using a) fun i hi=>?_;have:=b i hi;simpa using this
 ·split at h
  ·rename_i cs hc;injection h with h;subst h;have:cs=#[]:=by simpa using hc
   subst this;exact .undef K
  simp at h
 exact(qI h K).1
def eE(K:Ker)(sl:List V)(a:Act):Prop:=sl.length=a.tmps.size∧∀t,VR K (sl.getD t V.undef) (a.tmps.getD t Ke)
def SlV(K:Ker)(sl:List V)(a:Act):Prop:=gG K∧∀t,VR K (sl.getD t V.undef) (a.tmps.getD t Ke)
theorem qz{P:Program}{g:Nat}{v:V}(h:BW P g=some v){K:Ker}(f:gG K):VR K v (.pointer (some ⟨g,0,none⟩)):=by
 unfold BW at h;obtain⟨k,hk0,h1⟩:=Km.1 h;obtain⟨⟨g',cs⟩,hp,h2⟩:=Km.1 h1;obtain⟨vs,hvs,h3⟩:=Km.1 h2;clear h h1 h2;have hg:g'=g:=by simpa using List.find?_some hp
 subst hg;obtain⟨f1,_,f2⟩:=f.gt _ _ (List.mem_of_find?_eq_some hp);obtain⟨e1,e2,e30⟩:=iU K cs _ vs hvs;have e3:∀x∈vs,x.aAE=true:=Kj.1 e30;have key:∀(k:Sh) (x:V),x.fits k=true→k.size=vs.length→(∀j,x.cell j=vs.getD j V.undef)→VR K (.ept k [x] 0 0) (.pointer (some ⟨g',0,none⟩)):=by
  intro k x hx hk hc
  have:=VR.ept (K:=K) k [x] 0 0 g' 0 (fun j=>cs.getD j Ke) (f.lt _ f1) (by simpa using hx)
   (fun j hj=>by simp only[KB,List.length_nil] at hj;rw[KF];exact f2 j or) (fun j _=> .inl f1)
   (fun i hi j hj=>by
     obtain rfl:i=0:=by simpa using hi
     simp only[List.getD_cons_zero,Nat.zero_mul,KF,hc];exact e2 j or)
  simpa using this
 split at h3
 ·rename_i v;injection h3 with h;subst h;refine key .leaf v (e3 v Zm) rfl fun j=>?_;have:v.cells=[v]:=by
   have:=e3 v Zm;cases v<;>first|rfl|(simp[V.aAE] at this)
  simp only[V.cell,this]
 ·split at h3
  ·rename_i n hn;injection h3 with h;subst h;exact key (.agg n) (.agg vs) (by simp only[V.fits,Kg,decide_eq_true_eq,Kj];exact⟨hn,e3⟩) hn.symm fun j=>rfl
  cases h3
 cases h3
theorem eE.mono{K K':Ker}(h:K.le K'){sl:List V}{a:Act}(r:eE K sl a):eE K' sl a:=⟨r.1,fun t=>(r.2 t).mono h⟩
theorem aE{P:Program}{t:TypeId}{x:Operand}{l:aI}(h:aL P t x=some l){K:Ker}{sl:List V}{a:Act}(hs:SlV K sl a):VR K (l.ev sl) (a.eval x):=by
 cases x with
 |tmp n=>simp[aL] at h;subst h;exact hs.2 n
 |const cv=>
  simp only[aL] at h;cases hv:wH P t cv with
  |none=>simp[hv] at h
  |some v=>simp[hv] at h;subst h;exact cX hv K
 |func f=>simp[aL] at h;subst h;exact .fn _ [] [] #[] #[] rfl rfl (fun i hi=>absurd hi Zm) (fun i hi=>absurd hi Zm)
 |global g=>
  simp only[aL] at h;obtain⟨v,hv,rfl⟩:=Option.map_eq_some_iff.1 h;exact qz hv hs.1
def bU(k t:Sh)(o:Nat):Prop:=
 match k,t with
 | .leaf, .leaf=>o=0
 | .leaf, .agg _=>False
 | .agg n, .leaf=>o<n
 | .agg n, .agg m=>o+m≤n
def aX(t:Sh)(o:Nat)(e:V):V:=
 match t with
 | .leaf=>e.cell o
 | .agg m=>if o=0∧e.cells.length=m then e else .agg ((e.cells.drop o).take m)
theorem fB{k t:Sh}{o:Nat}{e:V}(hp:bU k t o)(hf:e.fits k=true):(aX t o e).fits t=true∧o+t.size≤k.size∧∀j,j<t.size→(aX t o e).cell j=e.cell (o+j):=by
 cases k with
 |leaf=>
  cases t with
  |leaf=>
   simp only[bU] at hp;subst hp;simp only[V.fits] at hf;have e1:e.cells=[e]:=by cases e<;>first|rfl|(simp[V.aAE] at hf)
   have e2:aX .leaf 0 e=e:=by simp[aX,V.cell,e1]
   refine⟨by rw[e2];exact hf,by simp[Sh.size],?_⟩;intro j hj;have:j=0:=by simp[Sh.size] at hj;exact hj
   subst this;rw[e2]
  |agg m=>exact hp.elim
 |agg n=>
  cases e with
  |agg cs=>
   simp only[V.fits,Kg,decide_eq_true_eq,Kj] at hf;obtain⟨h1,h2⟩:=hf;cases t with
   |leaf=>
    simp only[bU] at hp;have hl:(aX .leaf o (.agg cs)).aAE=true:=by
     show(cs.getD o V.undef).aAE=true;rw[Ka,Kc or];exact h2 _ (Kk _)
    refine⟨hl,by simp[Sh.size];omega,?_⟩;intro j hj;have:j=0:=by simp[Sh.size] at hj;exact hj
    subst this;have e1:(aX .leaf o (.agg cs)).cells=[aX .leaf o (.agg cs)]:=by
     generalize aX .leaf o (.agg cs)=x at hl;cases x<;>first|rfl|(simp[V.aAE] at hl)
    show(aX .leaf o (.agg cs)).cells.getD 0 V.undef=_;rw[e1];rfl
   |agg m=>
    simp only[bU] at hp;unfold aX;by_cases hc:o=0∧(V.agg cs).cells.length=m
    ·simp only[if_pos hc];obtain⟨rfl,hc⟩:=hc;refine⟨?_,by simp[Sh.size];omega,fun j _=>Zm⟩;simp only[V.fits,Kg,decide_eq_true_eq,Kj];exact⟨hc,h2⟩
    simp only[if_neg hc];refine⟨?_,by simp[Sh.size];omega,?_⟩
    ·simp only[V.fits,V.cells,Kg,decide_eq_true_eq,Kj,List.length_take,List.length_drop];exact⟨or,fun x hx=>h2 x (List.mem_of_mem_drop (List.mem_of_mem_take hx))⟩
    intro j hj;simp only[Sh.size] at hj;show((cs.drop o).take m).getD j V.undef=cs.getD (o+j) V.undef;simp only[Ka,Ky,Kz,if_pos hj]
  |_=>simp[V.fits] at hf
inductive LK where
 |bool|int|str
 deriving DecidableEq,Inhabited
inductive mS where
 |plain (k:Sh) (ks:List LK)|ptr|slice|func|iface (cst:Bool)|map|chan
 deriving Inhabited
def fN:LK→V→V→Option Bool
 | .bool, .bool a, .bool b=>some (a==b)
 | .int, .int k a, .int k' b=>if k=k' then some (a==b) else none
 | .str, .str a, .str b=>some (a.toList==b.toList)
 |_,_,_=>none
def fL:List LK→List V→List V→Option Bool
 | [],[],[]=>some true
 | [k],[x],[y]=>fN k x y
 |k::ks,x::xs,y::ys=>match fN k x y,fL ks xs ys with
  |some a,some b=>some (a&&b)
  |_,_=>none
 |_,_,_=>none
def veq:mS→V→V→Option Bool
 | .plain k ks,x,y=>if (x.fits k&&y.fits k)=true then fL ks x.cells y.cells else none
 | .ptr, .nilPtr, .nilPtr=>some true
 | .ptr, .nilPtr, .ptr .. =>some false
 | .ptr, .ptr .., .nilPtr=>some false
 | .ptr, .nilPtr, .ept .. =>some false
 | .ptr, .ept .., .nilPtr=>some false
 | .slice, .sl _ o _, .sl _ .nil _=>some (o== .nil)
 | .slice, .rs .., .sl _ .nil _=>some false
 | .func, .aAW, .aAW=>some true
 | .func, .aAW, .fn .. =>some false
 | .func, .fn .., .aAW=>some false
 | .iface true, .nilIface, .nilIface=>some true
 | .iface _, .nilIface, .iface .. =>some false
 | .iface _, .iface .., .nilIface=>some false
 | .map, .aAH, .aAH=>some true
 | .map, .aAH, .map _=>some false
 | .map, .map _, .aAH=>some false
 | .chan, .aAM, .aAM=>some true
 | .chan, .aAM, .chan _=>some false
 | .chan, .chan _, .aAM=>some false
 |_,_,_=>none
def bO(e:mS)(k:V):List ME→Option (Option Nat)
 | []=>some none
 |x::r=>match veq e k x.k with
  |some true=>some (some 0)
  |some false=>(bO e k r).map (·.map (·+1))
  |none=>none
def iX(ok:Bool)(z:V)(es:List ME):Option Nat→V
 |some j=>if ok=true then .tup [(es.getD j default).v, .bool true] else (es.getD j default).v
 |none=>if ok=true then .tup [z, .bool false] else z
def ww(op:BinOp)(k:IntKind)(a b:Int)(R:V→Prop):Prop:=
 match op with
 | .add=>R (.int k (k.wrap (a+b)))
 | .sub=>R (.int k (k.wrap (a-b)))
 | .mul=>R (.int k (k.wrap (a*b)))
 | .quo=>b≠0∧R (.int k (k.wrap (a.tdiv b)))
 | .rem=>b≠0∧R (.int k (a.tmod b))
 | .eql=>R (.bool (a==b))
 | .neq=>R (.bool (a != b))
 | .lss=>R (.bool (decide (a<b)))
 | .leq=>R (.bool (decide (a≤b)))
 | .gtr=>R (.bool (decide (b<a)))
 | .geq=>R (.bool (decide (b≤a)))
 |_=>False
def ux(op:BinOp)(s t:ByteArray)(R:V→Prop):Prop:=
 match op with
 | .add=>((s.size+t.size:Nat):Int)≤9223372036854775807∧R (.str (s++t))
 | .eql=>R (.bool (s.toList==t.toList))
 | .neq=>R (.bool (!(s.toList==t.toList)))
 | .lss=>R (.bool (Op.bytesLess s.toList t.toList))
 | .leq=>R (.bool (Op.bytesLess s.toList t.toList||s.toList==t.toList))
 | .gtr=>R (.bool (!(Op.bytesLess s.toList t.toList||s.toList==t.toList)))
 | .geq=>R (.bool (!Op.bytesLess s.toList t.toList))
 |_=>False
def V.pick(t:Bool):V→V→V
 | .bool x, .bool y=> .bool (if t then x else y)
 |a,b=>if t then a else b
def zJ(cells:List V):List (Nat×List V)→List V
 | []=>cells
 |(off,xs)::r=>zJ (cells.take off++xs++cells.drop (off+xs.length)) r
def cH(sl:List V)(d:Int):Option aI→Option Int
 |none=>some d
 |some l=>match l.ev sl with
  | .int _ n=>some n
  |_=>none
def fO(own:Own)(hi mx:Option Int):Own:=
 match own with
 | .nil=> .nil
 |o=>match hi,mx with
  |none,none=>o
  |some h,some m=>if h=m then .full else .free
  |_,_=> .free
def aC3:Own→List V→Option Int→Option Int→Own
 | .free,[],_,_=> .free
 |own,_,hi,mx=>fO own hi mx
theorem sQ(es:List V)(hi mx:Option Int):aC3 .nil es hi mx= .nil:=by cases es<;>rfl
theorem pQ(es:List V)(hi mx:Option Int):aC3 .full es hi mx=fO .full hi mx:=by cases es<;>rfl
theorem sP(n:Nat)(es:List V)(hi mx:Option Int):aC3 (.tok n) es hi mx=fO (.tok n) hi mx:=by cases es<;>rfl
theorem iG(hi mx:Option Int):aC3 .free [] hi mx= .free:=rfl
theorem kX(e:V)(es:List V)(hi mx:Option Int):aC3 .free (e::es) hi mx=fO .free hi mx:=rfl
theorem VR.aC3{K:Ker}{k:Sh}{own:Own}{es xs:List V}{hi mx:Option Int}{cv:Value}(ho:own≠ .nil)(h:VR K (.sl k (fO own hi mx) xs) cv):VR K (.sl k (aC3 own es hi mx) xs) cv:=by
 cases own with
 |nil=>exact absurd rfl ho
 |full=>rw[pQ];exact h
 |tok n=>rw[sP];exact h
 |free=>
  cases es with
  |nil=>exact h.free (by cases hi<;>cases mx<;>simp[fO];split<;>simp)
  |cons=>exact h
def dF(sl:List V):Option aI→Option Int
 |none=>none
 |some l=>match l.ev sl with
  | .int _ n=>some n
  |_=>none
def bd(mx:Bool)(a b:Int):Int:=if mx=true then (if b>a then b else a) else (if b<a then b else a)
inductive aR where
 |move (x:aI)
 |pick (c a b:aI)
 |load (t:Sh) (x:aI)
 |nilCheck (x:aI)
 |bin (op:BinOp) (x y:aI)
 |eq (ng:Bool) (ty:mS) (x y:aI)
 |not (x:aI)
 |neg (x:aI)
 |conv (k:IntKind) (x:aI)
 |mkif (t:Nat) (x:aI)
 |mkfn (f:Fn) (first cap:List aI)
 |fldA (off:Nat) (x:aI)
 |fld (t:Sh) (off:Nat) (x:aI)
 |idxA (k:Sh) (x i:aI)
 |idxP (len:Nat) (k:Sh) (x i:aI)
 |len (x:aI)
 |slen (x:aI)
 |ext (x:aI) (i:Nat)
 |build (z:List V) (parts:List (Nat×Sh×aI))
 |slc (k:Sh) (x:aI) (lo hi mx:Option aI)
 |slcs (x:aI) (lo hi:Option aI)
 |never
 |capv (x:aI)
 |mnx (mx:Bool) (x y:aI)
 |asrt (t:Nat) (z:V) (x:aI)
 |asrq (t:Nat) (x:aI)
 |mget (kS:Sh) (ks:List LK) (z:V) (ok:Bool) (x i:aI)
 |mlen (x:aI)
 |sidx (n:Option Nat) (x i:aI)
 |pslc (n:Nat) (k:Sh) (x:aI) (hi:Option aI)
 deriving Inhabited
def nK(k:Sh)(n:Nat)(e:V):List V:=(Kh n).map fun j=>aX k (j*k.size) e
def aR.sem(sl:List V)(h:Hp)(R:V→Prop):aR→Prop
 | .move x=>R (x.ev sl)
 | .pick c a b=>match c.ev sl with
  | .bool t=>R (V.pick t (a.ev sl) (b.ev sl))
  |_=>False
 | .load t x=>match x.ev sl with
  | .ptr n k i o=>match h n with
   |some (.arr k' es)=>k'=k∧i<es.length∧bU k t o∧R (aX t o (es.getD i V.undef))
   |_=>False
  | .ept k es i o=>i<es.length∧bU k t o∧R (aX t o (es.getD i V.undef))
  |_=>False
 | .nilCheck x=>match x.ev sl with
  | .ptr n k i o=>R (.ptr n k i o)
  | .ept k es i o=>R (.ept k es i o)
  |_=>False
 | .bin op x y=>match x.ev sl,y.ev sl with
  | .int k a, .int k' b=>k=k'∧ww op k a b R
  | .str s, .str t=>ux op s t R
  |_,_=>False
 | .eq ng ty x y=>match veq ty (x.ev sl) (y.ev sl) with
  |some r=>R (.bool (if ng then !r else r))
  |none=>False
 | .not x=>match x.ev sl with
  | .bool b=>R (.bool (!b))
  |_=>False
 | .neg x=>match x.ev sl with
  | .int k n=>R (.int k (k.wrap (0-n)))
  |_=>False
 | .conv k x=>match x.ev sl with
  | .int _ n=>R (.int k (k.wrap n))
  |_=>False
 | .mkif t x=>R (.iface t (x.ev sl))
 | .mkfn f first cap=>R (.fn f (first.map (aI.ev sl)) (cap.map (aI.ev sl)))
 | .fldA off x=>match x.ev sl with
  | .ptr n k i o=>R (.ptr n k i (o+off))
  | .ept k es i o=>R (.ept k es i (o+off))
  |_=>False
 | .fld t off x=>match x.ev sl with
  | .agg cs=>bU (.agg cs.length) t off∧cs.all V.aAE=true∧R (aX t off (.agg cs))
  |_=>False
 | .idxA k x i=>match x.ev sl,i.ev sl with
  | .sl k' _ es, .int _ j=>k'=k∧0≤j∧j<es.length∧R (.ept k es j.toNat 0)
  | .rs n k' off ln, .int _ j=>k'=k∧0≤j∧j<ln∧R (.ptr n k (off+j.toNat) 0)
  |_,_=>False
 | .idxP ln k x i=>match x.ev sl,i.ev sl with
  | .ptr n k' i' o, .int _ j=>0≤j∧j<ln∧R (.ptr n k' i' (o+j.toNat*k.size))
  | .ept k' es i' o, .int _ j=>0≤j∧j<ln∧R (.ept k' es i' (o+j.toNat*k.size))
  |_,_=>False
 | .len x=>match x.ev sl with
  | .sl _ _ es=>R (.int .i64 es.length)
  | .rs _ _ _ ln=>R (.int .i64 ln)
  |_=>False
 | .slen x=>match x.ev sl with
  | .str s=>R (.int .i64 s.size)
  |_=>False
 | .ext x i=>match x.ev sl with
  | .tup vs=>i<vs.length∧R (vs.getD i V.undef)
  |_=>False
 | .slc k x lo hi mx=>match x.ev sl with
  | .sl k' own es=>match cH sl 0 lo,cH sl es.length hi,cH sl es.length mx with
   |some l,some h',some m=>k'=k∧0≤l∧l≤h'∧h'≤m∧m≤es.length∧(hi.isNone=true→mx.isNone=true)∧R (.sl k (aC3 own es (dF sl hi) (dF sl mx)) ((es.take h'.toNat).drop l.toNat))
   |_,_,_=>False
  | .rs n k' off ln=>match cH sl 0 lo,cH sl ln hi,mx with
   |some l,some h',none=>k'=k∧0≤l∧l≤h'∧h'≤ln∧R (if l.toNat=ln∧l.toNat≠0 then .sl k .free [] else .rs n k (off+l.toNat) (h'.toNat-l.toNat))
   |some l,some h',some _=>cH sl ln mx=some 0∧k'=k∧l=0∧h'=0∧hi.isSome=true∧R (.sl k .full [])
   |_,_,_=>False
  |_=>False
 | .slcs x lo hi=>match x.ev sl with
  | .str s=>match cH sl 0 lo,cH sl s.size hi with
   |some l,some h'=>0≤l∧l≤h'∧h'≤s.size∧R (.str (s.extract l.toNat h'.toNat))
   |_,_=>False
  |_=>False
 | .build z parts=>(∀p∈parts,(p.2.2.ev sl).fits p.2.1=true∧p.1+p.2.1.size≤z.length)∧R (.agg (zJ z (parts.map fun p=>(p.1,(p.2.2.ev sl).cells))))
 | .never=>False
 | .capv x=>match x.ev sl with
  | .sl _ .nil _=>R (.int .i64 0)
  | .sl _ .full es=>R (.int .i64 es.length)
  |_=>False
 | .mnx mx x y=>match x.ev sl,y.ev sl with
  | .int k a, .int k' b=>k=k'∧R (.int k (bd mx a b))
  |_,_=>False
 | .asrt t z x=>match x.ev sl with
  | .iface t' v=>R (.tup [if t'=t then v else z, .bool (decide (t'=t))])
  | .nilIface=>R (.tup [z, .bool false])
  |_=>False
 | .asrq t x=>match x.ev sl with
  | .iface t' v=>t'=t∧R v
  |_=>False
 | .mget kS ks z ok x i=>(i.ev sl).fits kS=true∧match x.ev sl with
  | .aAH=>R (iX ok z [] none)
  | .map n=>match h n with
   |some (.mp es _)=>match bO (.plain kS ks) (i.ev sl) es with
    |some r=>R (iX ok z es r)
    |none=>False
   |_=>False
  |_=>False
 | .mlen x=>match x.ev sl with
  | .aAH=>R (.int .i64 0)
  | .map n=>match h n with
   |some (.mp es _)=>R (.int .i64 es.length)
   |_=>False
  |_=>False
 | .pslc n k x hi=>match x.ev sl with
  | .ept (.agg m) [e] 0 0=>match cH sl n hi with
   |some h'=>m=n*k.size∧0≤h'∧h'≤n∧R (.sl k .free ((nK k n e).take h'.toNat))
   |none=>False
  |_=>False
 | .sidx n x i=>match n,x.ev sl,i.ev sl with
  |some n, .agg cs, .int _ j=>0≤j∧(j<n∧j<cs.length)∧R (cs.getD j.toNat V.undef)
  |none, .str s, .int _ j=>0≤j∧j<s.size∧R (.int .u8 (s.data.toList.getD j.toNat 0).toNat)
  |_,_,_=>False
theorem aR.aAq{sl:List V}{h h':Hp}{R R':V→Prop}(hh:∀n b,h n=some b→b.mem=true→h' n=some b)(hR:∀v,R v→R' v){l:aR}(hs:l.sem sl h R):l.sem sl h' R':=by
 cases l<;>simp only[aR.sem] at hs⊢;case bin op x y=>
  revert hs;split
  ·rintro⟨a,b⟩;refine⟨a,?_⟩;cases op<;>simp only[ww] at b⊢<;>first|exact hR _ b|exact⟨b.1,hR _ b.2⟩|exact b
  ·intro b;cases op<;>simp only[ux] at b⊢<;>first|exact hR _ b|exact⟨b.1,hR _ b.2⟩|exact b
  exact id
 case load t x=>
  revert hs;split
  ·split
   ·rename_i n k i o _ k' es he;rintro⟨a,b,c,d⟩;rw[hh _ _ he rfl];exact⟨a,b,c,hR _ d⟩
   exact False.elim
  ·rintro⟨b,c,d⟩;exact⟨b,c,hR _ d⟩
  exact id
 case mget kS ks z ok x i=>
  refine⟨hs.1,?_⟩;have hs:=hs.2;revert hs;split
  ·exact hR _
  ·split
   ·rename_i he;rw[hh _ _ he rfl];dsimp only;split
    ·exact hR _
    exact id
   exact False.elim
  exact id
 case mlen x=>
  revert hs;split
  ·exact hR _
  ·split
   ·rename_i he;rw[hh _ _ he rfl];exact hR _
   exact False.elim
  exact id
 case slc k x lo hi mx=>
  revert hs;split
  ·split
   ·rintro⟨a,b,c,d,e,f,g⟩;exact⟨a,b,c,d,e,f,hR _ g⟩
   exact id
  ·split
   ·rintro⟨a,b,c,d,e⟩;exact⟨a,b,c,d,hR _ e⟩
   ·rintro⟨a,b,c,d,f,e⟩;exact⟨a,b,c,d,f,hR _ e⟩
   exact id
  exact id
 case slcs x lo hi=>
  revert hs;split
  ·split
   ·rintro⟨a,b,c,e⟩;exact⟨a,b,c,hR _ e⟩
   exact id
  exact id
 case pslc n k x hi=>
  revert hs;split
  ·split
   ·rintro⟨a,b,c,e⟩;exact⟨a,b,c,hR _ e⟩
   exact id
  exact id
 all_goals
  first
   |exact hR _ hs
   |exact⟨hs.1,hR _ hs.2⟩
   |(revert hs;split<;>first|exact hR _|exact id|(rintro⟨a,b⟩;exact⟨a,hR _ b⟩)|(rintro⟨a,c,b⟩;exact⟨a,c,hR _ b⟩)|(rintro⟨a,c,d,b⟩;exact⟨a,c,d,hR _ b⟩))
theorem eO{P:Program}{t:TypeId}{k:Sh}(h:bV P t=some k):∃i d,P.info? t=some i∧P.underlying t=some d∧i.size=k.size∧((k= .leaf∧(∀fs,d≠ .struct fs)∧(∀n e,d≠ .array n e))∨(k= .agg i.size∧((∃fs,d= .struct fs)∨∃n e,d= .array n e))):=by
 unfold bV at h;split at h
 ·simp at h
 rename_i i hi;split at h
 ·rename_i fs hu;injection h with h;subst h;exact⟨i,_,hi,hu,rfl, .inr ⟨rfl, .inl ⟨fs,rfl⟩⟩⟩
 ·rename_i n e hu;injection h with h;subst h;exact⟨i,_,hi,hu,rfl, .inr ⟨rfl, .inr ⟨n,e,rfl⟩⟩⟩
 ·rename_i d h1 h2 hu;split at h
  ·rename_i hs;injection h with h;subst h;exact⟨i,d,hi,hu,hs, .inl ⟨rfl,h1,h2⟩⟩
  simp at h
 simp at h
theorem c8{P:Program}{t:TypeId}{k:Sh}(h:bV P t=some k)(w:World):(isAgg t).run P w= .ok (match k with| .leaf=>false| .agg _=>true) w:=by
 obtain⟨i,d,hi,hd,hs,hk⟩:=eO h;simp only[isAgg,Kf,run_underlying hd,Kd];rcases hk with⟨rfl,h1,h2⟩|⟨rfl,⟨fs,rfl⟩|⟨n,e,rfl⟩⟩
 ·cases d<;>first|rfl|exact absurd rfl (h1 _)|exact absurd rfl (h2 _ _)
 ·rfl
 rfl
theorem dL{P:Program}{t:TypeId}{k:Sh}(h:bV P t=some k)(w:World):(sizeOf t).run P w= .ok k.size w:=by
 obtain⟨i,d,hi,hd,hs,hk⟩:=eO h;simp[sizeOf,typeInfo,hi,hs]
def aAX(k:Sh)(f:Nat→Value):Value:=
 match k with
 | .leaf=>f 0
 | .agg n=> .agg ((Kh n).map f).toArray
theorem cV(b o n:Nat):(⟨b,o,none⟩:Addr).add n=⟨b,o+n,none⟩:=by
 unfold Addr.add;split
 ·subst_vars;rfl
 rfl
theorem oA{P:Program}{t:TypeId}{k:Sh}(h:bV P t=some k)(w:World)(b o:Nat)(f:Nat→Value)(hc:∀j,j<k.size→w.cell? ⟨b,o+j,none⟩=some (f j)):
 (loadVar t ⟨b,o,none⟩).run P w= .ok (aAX k f) w:=by
 simp only[loadVar,Kf,c8 h,Kd];cases k with
 |leaf=>
  have:=hc 0 (by simp[Sh.size]);simp only[Nat.add_zero] at this;simp[this,aAX]
 |agg n=>
  have hl:=run_loadCells (P:=P) w ⟨b,o,none⟩ n f (fun j hj=>by rw[cV];exact hc j hj);simp only[Kf,dL h,Kd,if_true,Sh.size,hl,Kp,aAX]
theorem VR.aAX{K:Ker}{k:Sh}{v:V}{f:Nat→Value}(hf:v.fits k=true)(hv:∀j,j<k.size→VR K (v.cell j) (f j)):VR K v (aAX k f):=by
 cases k with
 |leaf=>
  have h0:=hv 0 (by simp[Sh.size]);simp only[V.fits] at hf;have e1:v.cells=[v]:=by cases v<;>first|rfl|(simp[V.aAE] at hf)
  have e2:v.cell 0=v:=by simp[V.cell,e1]
  rw[e2] at h0;exact h0
 |agg n=>
  refine VR.aDX hf Zm fun j hj=>?_;have:=hv j hj;simpa [Ka,hj] using this
def sZ(P:Program)(o:Oper)(act:Act)(K:Ker)(R:V→Prop):Prop:=∃cv v,(execOp act.eval o).run P K.w= .ok (.value cv) K.w∧VR K v cv∧R v
section
variable{P:Program}{o:Oper}{act:Act}{K:Ker}{sl:List V}{h:Hp}{R:V→Prop}
theorem By{t:TypeId}{k:Sh}(hk:bV P t=some k){a:Value}(hr:Rel K h){x:V}(hx:VR K x a)(l:aI)(hl:l.ev sl=x)(aAB:(aR.load k l).sem sl h R):
 ∃cv v,(Kw t a).run P K.w= .ok cv K.w∧VR K v cv∧R v:=by
 simp only[aR.sem,hl] at aAB;cases hx with
 |ptr n kk i oo hn=>
  simp only at aAB;split at aAB
  ·rename_i k' es he;obtain⟨rfl,hi,hp,hR⟩:=aAB;have hb:=hr.blk n _ he;cases hb with
   |arr _ _ c T hh hsz aAr aAK hv=>
    have aAi:es.getD i V.undef∈es:=by
     rw[Ka,Kc hi];exact Kk _
    obtain⟨f1,f2,f3⟩:=fB hp (aAK _ aAi);have aDh:∀j,j<k.size→i*k'.size+oo+j<c.size:=fun j hj=>by
     have:=cB (k:=k'.size) (i:=i) (j:=oo+j) (n:=es.length) or hi;omega
    have aAh:=oA hk K.w (K.mu n) (i*k'.size+oo) (fun j=>c.getD (i*k'.size+(oo+j)) Ke) (fun j hj=>by
     have:=aDh j hj;simp[Kx,hh,Array.getD,Ku,show i*k'.size+(oo+j)<c.size by omega])
    refine⟨_,_,by simp only[Kw,KA,Kf,Kp,Kd];exact aAh,VR.aAX f1 (fun j hj=>?_),hR⟩;rw[f3 j hj];exact hv i hi (oo+j) or
  exact aAB.elim
 |ept kk es i oo b off f hb aAK hcell hst hv=>
  obtain⟨hi,hp,hR⟩:=aAB;have aAi:es.getD i V.undef∈es:=by
   rw[Ka,Kc hi];exact Kk _
  obtain⟨f1,f2,f3⟩:=fB hp (aAK _ aAi);have aAh:=oA hk K.w b (off+(i*kk.size+oo)) (fun j=>f (i*kk.size+(oo+j))) (fun j hj=>by
   have:=cB (k:=kk.size) (i:=i) (j:=oo+j) (n:=es.length) or hi;have:=hcell (i*kk.size+(oo+j)) this;simpa [Ku] using this)
  refine⟨_,_,by simp only[Kw,KA,Kf,Kp,Kd];exact aAh,VR.aAX f1 (fun j hj=>?_),hR⟩;rw[f3 j hj];exact hv i hi (oo+j) or
 |_=>exact aAB.elim
theorem Cl{op:BinOp}{k:IntKind}{a b:Int}{t:TypeId}(hop:op≠ .shl∧op≠ .shr)(hR:ww op k a b R):∃cv v,(binOp op t (.int k a) (.int k b)).run P K.w= .ok cv K.w∧VR K v cv∧R v:=by
 cases op<;>simp only[ww] at hR<;>first
  |exact hR.elim
  |exact⟨_,_,by simp[binOp,Op.intArith,Op.intCmp], .int _ _,hR⟩
  |exact⟨_,_,by simp[binOp,Op.intArith,Op.intCmp], .bool _,hR⟩
  |exact⟨_,_,by simp[binOp,Op.intDiv,hR.1], .int _ _,hR.2⟩
theorem Cb{op:BinOp}{s t:ByteArray}{ty:TypeId}(hR:ux op s t R):∃cv v,(binOp op ty (.string s) (.string t)).run P K.w= .ok cv K.w∧VR K v cv∧R v:=by
 have hm:IntKind.i64.max=9223372036854775807:=rfl
 cases op<;>simp only[ux] at hR<;>first
  |exact hR.elim
  |exact⟨_,_,by simp[binOp,Op.stringOp], .bool _,hR⟩
  |(refine⟨_,_,?_, .str _,hR.2⟩
    have:=hR.1;simp only[binOp,Op.stringOp,hm];rw[if_neg or];rfl)
end
def eJ(kd:TypeId→Option (List LK)):List Field→Nat→Option (List LK)
 | [],_=>some []
 |f::fs,off=>if f.name≠ "_" ∧f.offset=off then (kd f.type).bind fun ks=>(eJ kd fs (off+ks.length)).map (ks++ ·) else none
def aY(P:Program):Nat→TypeId→Option (List LK)
 |0,_=>none
 |d+1,t=>match P.underlying t with
  |some .bool=>if bV P t=some .leaf then some [.bool] else none
  |some (.int _)=>if bV P t=some .leaf then some [.int] else none
  |some .string=>if bV P t=some .leaf then some [.str] else none
  |some (.struct fs)=>if P.stoodInHeld t then none else (eJ (aY P d) fs.toList 0).bind fun ks=>if bV P t=some (.agg ks.length) then some ks else none
  |_=>none
theorem pB(k:LK)(ks:List LK)(x:V)(xs:List V)(y:V)(ys:List V):fL (k::ks) (x::xs) (y::ys)=match fN k x y,fL ks xs ys with
 |some a,some b=>some (a&&b)
 |_,_=>none:=by
 cases ks<;>cases xs<;>cases ys<;>first|rfl|(simp[fL];done)|(simp only[fL];cases fN k x y<;>simp)
theorem mE:∀(ks:List LK) (xs ys:List V) (r:Bool),fL ks xs ys=some r→xs.length=ks.length∧ys.length=ks.length
 | [],[],[],_,_=>⟨rfl,rfl⟩
 | [],[],_::_,_,h=>by simp[fL] at h
 | [],_::_,_,_,h=>by simp[fL] at h
 |k::ks,[],_,_,h=>by simp[fL] at h
 |k::ks,_::_,[],_,h=>by simp[fL] at h
 |k::ks,x::xs,y::ys,r,h=>by
  rw[pB] at h;split at h
  ·rename_i a b h1 h2;have:=mE ks xs ys b h2;simp[this.1,this.2]
  simp at h
theorem uZ:∀(ks ks':List LK) (xs ys:List V) (r:Bool),fL (ks++ks') xs ys=some r→
 ∃r1 r2,fL ks (xs.take ks.length) (ys.take ks.length)=some r1∧fL ks' (xs.drop ks.length) (ys.drop ks.length)=some r2∧r=(r1&&r2)
 | [],ks',xs,ys,r,h=>⟨true,r,by simp[fL],by simpa using h,Zm⟩
 |k::ks,ks',xs,ys,r,h=>by
  have hl:=mE _ _ _ _ h;cases xs with
  |nil=>simp at hl
  |cons x xs=>
   cases ys with
   |nil=>simp at hl
   |cons y ys=>
    rw[List.cons_append,pB] at h;split at h
    ·rename_i a b h1 h2;injection h with h;obtain⟨r1,r2,e1,e2,e3⟩:=uZ ks ks' xs ys b h2;refine⟨a&&r1,r2,?_,by simpa using e2,by rw[←h,e3,Bool.and_assoc]⟩;simp only[KB,List.take_succ_cons];rw[pB,h1,e1]
    simp at h
theorem nZ{P:Program}{t:TypeId}{k:Sh}(h:bV P t=some k)(w:World)(cs:Array Value)(f:Nat→Value)(off:Nat)(hl:off+k.size≤cs.size)(hf:∀j,j<cs.size→cs.getD j Ke=f j):
 (part t cs off).run P w= .ok (aAX k fun j=>f (off+j)) w:=by
 simp only[part,Kf,c8 h,Kd];cases k with
 |leaf=>
  simp only[Sh.size] at hl;have h0:=hf off or;have:cs[off]?=some (f off):=by
   rw[Ko or];rw[Kt,Ko or] at h0;simpa using h0
  simp[this,aAX]
 |agg n=>
  simp only[Sh.size] at hl;have:cs.extract off (off+n)=((Kh n).map fun j=>f (off+j)).toArray:=by
   apply Array.ext
   ·simp;omega
   intro i h1 h2;have hi:i<n:=by simpa using h2
   have h0:=hf (off+i) or;rw[Kt,Ko or] at h0;simpa using h0
  simp only[if_true,Kf,dL h,Kd,Sh.size,Kp,aAX,this]
theorem nb{P:Program}{K:Ker}(w:World):∀(d:Nat) (t:TypeId) (ks:List LK) (k:Sh),aY P d t=some ks→bV P t=some k→k.size=ks.length∧
 ∀(vs us:List V) (cx cy:Nat→Value) (r:Bool),(∀j,j<ks.length→VR K (vs.getD j V.undef) (cx j))→(∀j,j<ks.length→VR K (us.getD j V.undef) (cy j))→fL ks vs us=some r→
  (Op.equalIn d t (aAX k cx) (aAX k cy)).run P w= .ok r w
 |0,t,ks,k,h,_=>by simp[aY] at h
 |d+1,t,ks,k,h,hk=>by
  have aAg:∀(lk:LK) (dd:TypeDesc),P.underlying t=some dd→bV P t=some .leaf→ks=[lk]→(dd= .bool∧lk= .bool∨(∃kk,dd= .int kk)∧lk= .int∨dd= .string∧lk= .str)→k.size=ks.length∧
   ∀(vs us:List V) (cx cy:Nat→Value) (r:Bool),(∀j,j<ks.length→VR K (vs.getD j V.undef) (cx j))→(∀j,j<ks.length→VR K (us.getD j V.undef) (cy j))→fL ks vs us=some r→
    (Op.equalIn (d+1) t (aAX k cx) (aAX k cy)).run P w= .ok r w:=by
   intro lk dd hu hs hks hdd;rw[hk] at hs;injection hs with hs;subst hs hks;refine⟨rfl,fun vs us cx cy r hx hy hr=>?_⟩;have hl:=mE _ _ _ _ hr;obtain⟨x,rfl⟩:∃x,vs=[x]:=by
    cases vs with
    |nil=>simp at hl
    |cons x t=>cases t with
     |nil=>exact⟨x,rfl⟩
     |cons _ _=>simp at hl
   obtain⟨y,rfl⟩:∃y,us=[y]:=by
    cases us with
    |nil=>simp at hl
    |cons x t=>cases t with
     |nil=>exact⟨x,rfl⟩
     |cons _ _=>simp at hl
   have h0:VR K x (cx 0):=by simpa using hx 0 Zm
   have h1:VR K y (cy 0):=by simpa using hy 0 Zm
   simp only[aAX];simp only[fL] at hr;generalize cx 0=cvx at h0⊢;generalize cy 0=cvy at h1⊢;rcases hdd with⟨rfl,rfl⟩|⟨⟨kk,rfl⟩,rfl⟩|⟨rfl,rfl⟩
   ·cases x<;>cases y<;>simp only[fN] at hr<;>first|(cases h0;cases h1;injection hr with hr;subst hr;exact run_equalIn_bool' w d t _ _ hu)|simp at hr
   ·cases x<;>cases y<;>simp only[fN] at hr<;>first
     |(cases h0;cases h1;simp only[Option.ite_none_right_eq_some,Option.some.injEq] at hr;obtain⟨rfl,rfl⟩:=hr;exact run_equalIn_int w d t _ _ _ _ hu)
     |simp at hr
   cases x<;>cases y<;>simp only[fN] at hr<;>first|(cases h0;cases h1;injection hr with hr;subst hr;exact run_equalIn_string w d t _ _ hu)|simp at hr
  unfold aY at h;split at h
  ·rename_i hu;split at h
   ·rename_i hs;injection h with h;exact aAg .bool _ hu hs h.symm (.inl ⟨rfl,rfl⟩)
   simp at h
  ·rename_i kk hu;split at h
   ·rename_i hs;injection h with h;exact aAg .int _ hu hs h.symm (.inr (.inl ⟨⟨kk,rfl⟩,rfl⟩))
   simp at h
  ·rename_i hu;split at h
   ·rename_i hs;injection h with h;exact aAg .str _ hu hs h.symm (.inr (.inr ⟨rfl,rfl⟩))
   simp at h
  ·rename_i fs hu;split at h
   ·simp at h
   rename_i hst;have aDY:P.stoodInHeld t=false:=by simpa using hst
   cases hks:eJ (aY P d) fs.toList 0 with
   |none=>simp[hks] at h
   |some ks0=>
    simp only[hks,KC] at h;split at h
    ·rename_i hsh;injection h with h;subst h;rw[hk] at hsh;injection hsh with hsh;subst hsh;refine⟨rfl,fun vs us cx cy r hx hy hr=>?_⟩;have hfo:P.fieldsOf t=fs:=by simp[Program.fieldsOf,hu]
     simp only[aAX];rw[run_equalIn_struct w d t _ _ (by rw[hfo];exact hu) aDY,hfo]
     --along the fields
     have key:∀(l:List Field) (off:Nat) (kl:List LK) (vs us:List V) (r:Bool),eJ (aY P d) l off=some kl→off+kl.length≤ks0.length→
      (∀j,j<kl.length→VR K (vs.getD j V.undef) (cx (off+j)))→(∀j,j<kl.length→VR K (us.getD j V.undef) (cy (off+j)))→fL kl vs us=some r→
      (Op.eqFields d ((Kh ks0.length).map cx).toArray ((Kh ks0.length).map cy).toArray l).run P w= .ok r w:=by
      intro l;induction l with
      |nil=>
       intro off kl vs us r hkl _ _ _ hr;simp[eJ] at hkl;subst hkl;cases vs<;>cases us<;>simp[fL] at hr;subst hr;simp[Op.eqFields]
      |cons f l ih=>
       intro off kl vs us r hkl hle hvx hvy hr;unfold eJ at hkl;split at hkl
       ·rename_i hf;obtain⟨hnm,aMn⟩:=hf;cases hkf:aY P d f.type with
        |none=>simp[hkf] at hkl
        |some kf=>
         simp only[hkf,KC] at hkl;cases hkr:eJ (aY P d) l (off+kf.length) with
         |none=>simp[hkr] at hkl
         |some kr=>
          simp only[hkr,Option.map_some] at hkl;injection hkl with hkl;subst hkl;obtain⟨r1,r2,e1,e2,rfl⟩:=uZ kf kr vs us r hr;simp only[List.length_append] at hle hvx hvy;have aS5:∃kk,bV P f.type=some kk:=by
           cases d with
           |zero=>simp[aY] at hkf
           |succ d=>
            unfold aY at hkf;split at hkf
            ·split at hkf
             ·exact⟨_,by assumption⟩
             simp at hkf
            ·split at hkf
             ·exact⟨_,by assumption⟩
             simp at hkf
            ·split at hkf
             ·exact⟨_,by assumption⟩
             simp at hkf
            ·split at hkf
             ·simp at hkf
             obtain⟨a,_,hb⟩:=Km.1 hkf;split at hb
             ·exact⟨_,by assumption⟩
             simp at hb
            simp at hkf
          obtain⟨kk,hkk⟩:=aS5;obtain⟨hsz,heq⟩:=nb w d f.type kf kk hkf hkk;have gx:∀(c:Nat→Value) (j:Nat),j<((Kh ks0.length).map c).toArray.size→((Kh ks0.length).map c).toArray.getD j Ke=c j:=fun c j hj=>by
           have:j<ks0.length:=by simpa using hj
           simp[Ka,this]
          have p1:=nZ hkk w ((Kh ks0.length).map cx).toArray cx f.offset (by simp;omega) (gx cx);have p2:=nZ hkk w ((Kh ks0.length).map cy).toArray cy f.offset (by simp;omega) (gx cy);have ht:∀(vs:List V) (j:Nat),j<kf.length→(vs.take kf.length).getD j V.undef=vs.getD j V.undef:=fun vs j hj=>by
           simp[Ka,Ky,hj]
          have hd:∀(vs:List V) (j:Nat),(vs.drop kf.length).getD j V.undef=vs.getD (kf.length+j) V.undef:=fun vs j=>by
           simp[Ka,Kz]
          have q:=heq (vs.take kf.length) (us.take kf.length) (fun j=>cx (f.offset+j)) (fun j=>cy (f.offset+j)) r1 (fun j hj=>by rw[ht vs j hj,aMn];exact hvx j or) (fun j hj=>by rw[ht us j hj,aMn];exact hvy j or) e1;have q2:=ih (off+kf.length) kr (vs.drop kf.length) (us.drop kf.length) r2 hkr or (fun j hj=>by rw[hd];have:=hvx (kf.length+j) or;rwa [←Ku] at this) (fun j hj=>by rw[hd];have:=hvy (kf.length+j) or;rwa [←Ku] at this) e2;simp only[Op.eqFields,if_pos hnm,Kf,p1,p2,Kd,q,Sem.run_ite,q2,Kp];cases r1<;>simp
       simp at hkl
     exact key fs.toList 0 ks0 vs us r hks or (fun j hj=>by simpa using hx j hj) (fun j hj=>by simpa using hy j hj) hr
    simp at h
  simp at h
end Go.Proofs.YtgbiopfghdilnaaGreatDoor
