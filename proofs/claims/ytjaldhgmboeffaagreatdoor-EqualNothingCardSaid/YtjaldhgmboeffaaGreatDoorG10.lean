/- Part. -/
import Derived.Test.YtjaldhgmboeffaaGreatDoorG09
import Derived.Laws.Runes
import Derived.Laws.BytesString
import Derived.Laws.Cover4
import Derived.Laws.Cells
import Derived.Laws.IdiomCopy
import Derived.Lib.ConvBytes
set_option linter.unusedSimpArgs false
set_option linter.unusedVariables false
set_option linter.unusedSectionVars false
namespace Go.Ab
open Go
variable [eV]
variable {ρ ρ' :Gh} {w w' :World}{P:Program}{pn:jn}{G:Gl}{X:iw}{A:nA} {s s' :St}{env:Env}{a:Act}{lo:Nat}{d:D}{C:ay}{al:Option Nat}
section
variable (he:ew ρ w lo env a.tmps)(hg:gN pn G ρ w)(hs:ck ρ s w)
include he hg hs
theorem F6 {t e:TypeId}{m bytes:Nat}{i:TypeInfo}{z:D} {l' c' :Operand}{l c:bP}(hl:eO G l' =some l)(hc:eO G c' =some c)(hu:P.underlying t=some (.slice e))(fS:dO P e=some (m+1))(hz:jH P e=some z)(hi:P.info? e=some i)(hb:i.bytes=bytes)
  (h:cC C env s al (.ou (m+1) bytes e z l c)=some (d,s')){o:Oper}(ho:o.op= .makeSlice t l' c'):fc P ρ w env a.tmps d s' ((execOp a.eval o).run P w):=by
 simp only [cC]at h;split at h
 ·rename_i dl dc hdl hdc;have nD:=ba hl he hg hdl;have Cv:=ba hc he hg hdc;split at h
  ·rename_i nl nc qU XW;split at h
   ·rename_i h1 h2 h3;simp only [aB]at h1;obtain⟨h1,dQ⟩:=h1;have h1:=az h1;have h2:=az h2;have h3:=az h3;have hmx:aL=2147483648:=rfl;split at h
    ·rename_i k s2 hm;simp only [aa,ae]at h;obtain⟨rfl,rfl⟩:=h
     obtain⟨kl,vl,e1,e2⟩:∃k n,a.eval l' = .int k n/\(0<=n/\n.toNat=nl):=by
      unfold idx at qU;split at qU
      ·split at qU
       ·simp only [aa]at qU;simp only [aU]at nD;exact⟨_,_,nD,by assumption,qU⟩
       ·cases qU
      ·cases qU
     obtain⟨kc,vc,e3,e4⟩:∃k n,a.eval c' = .int k n/\(0<=n/\n.toNat=nc):=by
      unfold idx at XW;split at XW
      ·split at XW
       ·simp only [aa]at XW;simp only [aU]at Cv;exact⟨_,_,Cv,by assumption,XW⟩
       ·cases XW
      ·cases XW
     obtain⟨zv,z1,z2,z3⟩:=kF (w:=w) hz;have zo:=kq (ρ:=ρ) (w:=w) zv z z2;have Ic:zv.cells.size=m+1/\z.st=true:=by
      have:=iF.1 dQ z (by simp);exact⟨by rw [zo.size this.2]; exact this.1,this.2⟩
     have Lf:vl=(nl:Int):=by omega
     have hec:vc=(nc:Int):=by omega
     let cs:Array Value:=(Array.range (nc * (m+1))).map (zv.cells[· % (m+1)]!)
     have qG:cs.toList=(List.replicate nc zv.cells.toList).flatten:=by
      have:=sd zv.cells (by omega) nc;rw [Ic.1]at this;exact this
     have XK:cs.toList=(List.replicate nl zv.cells.toList).flatten++(List.replicate (nc - nl) zv.cells.toList).flatten:=by
      rw [qG,← List.flatten_append,List.replicate_append_replicate]
      congr 2; omega
     obtain⟨ρ',n1,n2,n3⟩:=Ce (w' :=w.alloc (.cells cs e)) (cs:=cs) (cp:=nc) hs (kS m) hm (gu.replicate zo Ic.1 Ic.2 nl) XK (by simp [cs]) (by simpa using h1) rfl rfl rfl rfl;have hr:(execOp a.eval o).run P w= .ok (.value (.slice (some ⟨w.heap.size,0,none⟩) nl nc)) (w.alloc (.cells cs e)):=by
      simp only [execOp,ho,e1,e3,Lf,hec];have hti:(typeInfo e).run P w= .ok i w:=by simp [typeInfo,hi]
      have w1:=wrap_small (nl:Int) (by omega) (by omega);have w2:=wrap_small (nc:Int) (by omega) (by omega);have rN: ¬ ((i.bytes:Int) * (nc:Int) > 2 ^ 48):=by
       rw [hb];have:((bytes:Int) * (nc:Int))=((nc * bytes:Nat):Int):=by rw [Int.natCast_mul,Int.mul_comm]
       rw [this]; omega
      have sq: ¬ ((nl:Int) < 0):=by omega
      have zk: ¬ ((nc:Int) < 0):=by omega
      have hlc: ¬ ((nl:Int) > (nc:Int)):=by omega
      have pG: ¬ (nc * i.bytes > roomBytes):=by
       have:roomBytes=2 ^ 47:=rfl;rw [this,hb]; omega
      have Yv : ¬ ((2:Int) ^ 48 < (i.bytes:Int) * (nc:Int)):=rN;have abu:(askRoom (nc * i.bytes)).run P w= .ok () w:=by unfold askRoom; rw [aK pG]; rfl
      unfold Instr.makeSlice;rw [Sem.run_bind,Sem.run_bind,run_underlying hu];simp only [Result.andThen_ok,asInt,asIntOf,Sem.run_bind,Sem.run_pure,hti,w1,w2];have ZN: ¬ ((281474976710656:Int) < (i.bytes:Int) * (nc:Int)):=Yv;simp [sq,zk,hlc,ZN,abu,fT fS];have hle:nl<=nc:=h1;by_cases h0:nc * (m+1)=0
      ·have Fo:nc=0:=by
        rcases Nat.mul_eq_zero.1 h0 with h | h
        ·exact h
        ·omega
       have JW:cs= #[]:=by apply dH; rw [qG,Fo]; rfl
       rw [JW];have hE:∀f:Nat->Value,Array.map f (Array.range 0)= #[]:=fun f=>by apply dH; simp
       simp [hle,Fo,newRow,newObj,hE];rfl
      ·simp [hle,h0,z1,Ic.1,newRow,newObj];rfl
     rw [hr];simp only [iS]at n3;exact .val n1 n2 n3
    ·cases h
   ·cases h
  ·cases h
 ·cases h
end
end Go.Ab
namespace Go.Ab
open Go
variable [eV]
variable {ρ ρ' :Gh} {w w' :World}{P:Program}{pn:jn}{G:Gl}{X:iw}{A:nA} {s s' :St}{env:Env}{a:Act}{lo:Nat}{d:D}{C:ay}{al:Option Nat}
theorem pZ {z b:Nat}:∀ {l:List D} {y:Nat} {bs:List UInt8},bytesOf l=some bs->(z=1\/l=[])->gy ρ w z b y l->∃ns:List Int,ns.length=l.length/\(∀j n,ns[j]? =some n->w.cell? ⟨b,y+j,none⟩=some (.int .u8 n))/\
  ∀p:List UInt8,ns.foldl (fun (r:ByteArray) n=>r.push (UInt8.ofNat n.toNat)) ⟨⟨p⟩⟩=⟨⟨p++bs⟩⟩
 | [],y,bs,h,_,_=>by
  simp only [bytesOf,aa]at h; subst h;exact⟨[],rfl,fun j n hj=>by simp at hj,fun p=>by simp⟩
 | d::r,y,bs,h,hz,hE=>by
  obtain rfl:z=1:=by rcases hz with h | h; exact h; cases h
  unfold bytesOf at h;split at h
  ·rename_i hh; cases hh
  ·rename_i n r' hh;simp only [eC]at hh;obtain⟨rfl,rfl⟩:=hh;split at h
   ·rename_i bs' hb;simp only [aa]at h; subst h;simp only [gy]at hE;obtain⟨⟨v,h1,h2,h3,h4,h5⟩,h6⟩:=hE;simp only [aU]at h1; subst h1;obtain⟨ns,g1,g2,g3⟩:=pZ hb (.inl rfl) h6;refine⟨n::ns,by simp [g1],fun j m hj=> ?_,fun p=> ?_⟩
    ·cases j with
     | zero=>
      simp only [aR,aa]at hj; subst hj;have:=h4 0 (by simp [Value.cells]);simpa [Value.cells] using this
     | succ j=>
      simp only [bY]at hj;have:=g2 j m hj;rwa [show y+(j+1)=y+1+j by omega]
    ·simp only [nS];have:(⟨⟨p⟩⟩:ByteArray).push (UInt8.ofNat n.toNat)=⟨⟨p++ [UInt8.ofNat n.toNat]⟩⟩:=by simp [ByteArray.push]
     rw [this,g3]; simp
   ·cases h
  ·cases h
theorem sV {z b:Nat}:∀ {l:List D} {y:Nat} {bs:List UInt8},mf l=some bs->(z=1\/l=[])->gy ρ w z b y l->∃ns:List Int,ns.length=l.length/\(∀j n,ns[j]? =some n->w.cell? ⟨b,y+j,none⟩=some (.int .i32 n))/\
  ∀p:List UInt8,ns.foldl (fun (r:ByteArray) n=>r++Utf8.encode n) ⟨⟨p⟩⟩=⟨⟨p++bs⟩⟩
 | [],y,bs,h,_,_=>by
  simp only [mf,aa]at h; subst h;exact⟨[],rfl,fun j n hj=>by simp at hj,fun p=>by simp⟩
 | d::r,y,bs,h,hz,hE=>by
  obtain rfl:z=1:=by rcases hz with h | h; exact h; cases h
  unfold mf at h;split at h
  ·rename_i hh; cases hh
  ·rename_i n r' hh;simp only [eC]at hh;obtain⟨rfl,rfl⟩:=hh;split at h
   ·rename_i bs' hb;simp only [aa]at h; subst h;simp only [gy]at hE;obtain⟨⟨v,h1,h2,h3,h4,h5⟩,h6⟩:=hE;simp only [aU]at h1; subst h1;obtain⟨ns,g1,g2,g3⟩:=sV hb (.inl rfl) h6;refine⟨n::ns,by simp [g1],fun j m hj=> ?_,fun p=> ?_⟩
    ·cases j with
     | zero=>
      simp only [aR,aa]at hj; subst hj;have:=h4 0 (by simp [Value.cells]);simpa [Value.cells] using this
     | succ j=>
      simp only [bY]at hj;have:=g2 j m hj;rwa [show y+(j+1)=y+1+j by omega]
    ·simp only [nS];have:(⟨⟨p⟩⟩:ByteArray)++Utf8.encode n=⟨⟨p++(Utf8.encode n).data.toList⟩⟩:=ByteArray.mk_append_mk p (Utf8.encode n).data.toList;rw [this,g3]; simp
   ·cases h
  ·cases h
section
variable (he:ew ρ w lo env a.tmps)(hg:gN pn G ρ w)(hs:ck ρ s w)
include he hg hs
omit he hg hs in
theorem O8 {z:Nat}{l:List D}(h:(Nat.beq z 1 || (match l with | []=>true | _=>false))=true):z=1\/l=[]:=by
 simp only [eD]at h;rcases h with h | h
 ·exact .inl (aD h)
 ·cases l with
  | nil=>exact .inr rfl
  | cons _ _=>simp at h
omit he hg hs in
theorem Bl {b y:Nat}{k:IntKind}{ns:List Int}(h:∀j n,ns[j]? =some n->w.cell? ⟨b,y+j,none⟩=some (.int k n)):(loadCells ⟨b,y,none⟩ ns.length).run P w= .ok (ns.map (Value.int k)).toArray w:=by
 have:=run_loadCells_list (P:=P) (w:=w) ⟨b,y,none⟩ (ns.map (Value.int k)) (fun j v hj=>by
  rw [aC,bj]at hj;obtain⟨n,hn,rfl⟩:=hj;rw [Addr.add_mid];exact h j n hn)
 simpa using this
theorem zE {t u e:TypeId} {x' :Operand}{x:bP}(hx:eO G x' =some x)(ht:P.underlying t=some (.slice e))(he8:P.underlying e=some (.int .u8))(hu:P.underlying u=some .string)(h:cC C env s al (.lP x)=some (d,s')){o:Oper}(ho:o.op= .convert t u x'):
  fc P ρ w env a.tmps d s' ((execOp a.eval o).run P w):=by
 simp only [cC]at h;split at h
 ·rename_i p hp;have hv:=ba hx he hg hp;split at h
  ·rename_i z l hit;split at h
   ·rename_i bs hz hb;simp only [aa,ae]at h;obtain⟨rfl,rfl⟩:=h;have hz:=O8 hz
    have fin:(∃q n c,a.eval x' = .slice q n c)->(Conv.bytesToString (a.eval x')).run P w= .ok (.string ⟨⟨bs⟩⟩) w->fc P ρ w env a.tmps (.str bs) s ((execOp a.eval o).run P w):=fun ⟨q,n,c,sO⟩ hr=>by
     have fY:(execOp a.eval o).run P w= .ok (.value (.string ⟨⟨bs⟩⟩)) w:=by
      rw [sO]at hr;simp only [execOp,ho,convert,sO];simp [run_underlying ht,run_underlying hu,run_underlying he8,hr]
     rw [fY]; exact .rep hs (by simp [aU])
    rcases tY hs hit hv with ⟨rfl,q,c,hv⟩ | ⟨b,y,c,hv,hE⟩
    ·refine fin ⟨_,_,_,hv⟩ ?_;simp only [bytesOf,aa]at hb; subst hb;rw [hv];cases q with
     | none=>simp [Conv.bytesToString]; rfl
     | some ad=>
      have:=run_bytesToString (P:=P) w ad 0 c [] (by simp [loadCells,loadCellsFrom]);exact this
    ·refine fin ⟨_,_,_,hv⟩ ?_;obtain⟨ns,g1,g2,g3⟩:=pZ hb hz hE;have hl:=Bl (P:=P) g2;rw [g1]at hl;rw [hv,run_bytesToString w _ _ c ns hl];have:=g3 [];simp only [cB]at this;exact congrArg (fun q=>Result.ok (Value.string q) w) this
   ·cases h
  ·cases h
 ·cases h
theorem zI {t u e:TypeId} {x' :Operand}{x:bP}(hx:eO G x' =some x)(ht:P.underlying t=some (.slice e))(he8:P.underlying e=some (.int .i32))(hu:P.underlying u=some .string)(h:cC C env s al (.kB x)=some (d,s')){o:Oper}(ho:o.op= .convert t u x'):
  fc P ρ w env a.tmps d s' ((execOp a.eval o).run P w):=by
 simp only [cC]at h;split at h
 ·rename_i p hp;have hv:=ba hx he hg hp;split at h
  ·rename_i z l hit;split at h
   ·rename_i bs hz hb;simp only [aa,ae]at h;obtain⟨rfl,rfl⟩:=h;have hz:=O8 hz
    have fin:(∃q n c,a.eval x' = .slice q n c)->(Conv.runesToString (a.eval x')).run P w= .ok (.string ⟨⟨bs⟩⟩) w->fc P ρ w env a.tmps (.str bs) s ((execOp a.eval o).run P w):=fun ⟨q,n,c,sO⟩ hr=>by
     have fY:(execOp a.eval o).run P w= .ok (.value (.string ⟨⟨bs⟩⟩)) w:=by
      rw [sO]at hr;simp only [execOp,ho,convert,sO];simp [run_underlying ht,run_underlying hu,run_underlying he8,hr]
     rw [fY]; exact .rep hs (by simp [aU])
    rcases tY hs hit hv with ⟨rfl,q,c,hv⟩ | ⟨b,y,c,hv,hE⟩
    ·refine fin ⟨_,_,_,hv⟩ ?_;simp only [mf,aa]at hb; subst hb;rw [hv];cases q with
     | none=>simp [Conv.runesToString]; rfl
     | some ad=>
      have:=run_runesToString (P:=P) w ad 0 c [] (by simp [loadCells,loadCellsFrom]);exact this
    ·refine fin ⟨_,_,_,hv⟩ ?_;obtain⟨ns,g1,g2,g3⟩:=sV hb hz hE;have hl:=Bl (P:=P) g2;rw [g1]at hl;rw [hv,run_runesToString w _ _ c ns hl];have:=g3 [];simp only [cB]at this;exact congrArg (fun q=>Result.ok (Value.string q) w) this
   ·cases h
  ·cases h
 ·cases h
end
end Go.Ab
namespace Go.Ab
open Go
variable {s s' :St}{C:ay}{L:h9}{e:Env}{al:Option Nat}{d:D}
theorem P7 {x:Option D}(h:nj s x=some (d,s')):s' =s:=by cases x <;> simp [nj]at h; exact h.2.symm
theorem p9 (hr:s.ro=true)(o:Nat)(x:Obj):s.set o x=none:=by unfold St.set; rw [hr]
theorem Ax (hr:s.ro=true)(al:Option Nat)(x:Obj):s.mk' al x=none:=by unfold St.mk'; rw [hr]
theorem oE (hr:s.ro=true)(sz:Nat)(p v:D):jN s sz p v=none:=by
 unfold jN
 repeat' split
 all_goals first
  | rfl
  | exact p9 hr _ _
theorem I7 (hr:s.ro=true){sz:Nat}{p:D}{l:List D}(h:iM s sz p l=some s'):s' =s:=by
 unfold iM at h
 repeat' split at h
 all_goals first
  | (cases h; done)
  | (rw [p9 hr]at h; cases h; done)
  | (simp only [aa]at h; exact h.symm)
theorem Gy (hr:s.ro=true){sz ty:Nat}{x:D}{l:List D}(h:fH s al sz ty x l=some (d,s')):s' =s:=by
 unfold fH at h;simp only [p9 hr,Ax hr]at h
 repeat' split at h
 all_goals first
  | (cases h; done)
  | (simp only [aa,ae]at h; exact h.2.symm)
  | (simp at h; done)
theorem RA (hr:s.ro=true){k:Ext}{l:List D}(h:Db s k l=some (d,s')):s' =s:=by
 unfold Db at h;simp only [oE hr,oK]at h
 repeat' split at h
 all_goals first
  | (cases h; done)
  | (simp only [aa,ae]at h; exact h.2.symm)
  | (simp at h; done)
def Fj (C:ay):Prop:=∀f l s d s',s.ro=true->C f l s=some (d,s')->s' =s
def W7 (L:h9):Prop:=∀k a fr s e fr' s',s.ro=true->L k a fr s=some (e,fr',s')->s' =s
theorem XY (hC:Fj C)(hr:s.ro=true){p:eQ}(h:cC C e s al p=some (d,s')):s' =s:=by
 cases p <;> simp only [cC,p9 hr,Ax hr,oE hr,oK]at h
 all_goals
  (repeat' split at h)
  all_goals first
   | (cases h; done)
   | exact P7 h
   | (simp only [aa,ae]at h; exact h.2.symm)
   | exact hC _ _ _ _ _ hr h
   | exact Gy hr h
   | exact RA hr h
   | (rename_i h1; simp only [aa,ae]at h; obtain ⟨rfl,rfl⟩:=h; exact I7 hr h1)
   | trace_state
theorem xp (hC:Fj C)(hr:s.ro=true){b:Nat}{o:bg} {fr fr' :Fr}(h:oper C b o fr s=some (fr',s')):s' =s:=by
 unfold oper at h;split at h
 ·split at h
  ·split at h
   ·simp only [aa,ae]at h; exact h.2.symm
   ·cases h
  ·split at h
   ·split at h
    ·simp only [aa,ae]at h; exact h.2.symm
    ·cases h
   ·cases h
  ·split at h
   ·split at h
    ·split at h
     ·simp only [aa,ae]at h; exact h.2.symm
     ·cases h
    ·cases h
   ·cases h
  ·split at h
   ·rename_i h1;simp only [aa,ae]at h;obtain⟨_,rfl⟩:=h;exact XY hC hr h1
   ·cases h
 ·simp only [aa,ae]at h; exact h.2.symm
 ·cases h
theorem EB (hC:Fj C){b:Nat}:∀ {l:List bg} {s s' :St} {fr fr' :Fr},s.ro=true->opers C b l fr s=some (fr',s')->s' =s
 | [],s,s',fr,fr',hr,h=>by simp only [opers,aa,ae]at h; exact h.2.symm
 | o::r,s,s',fr,fr',hr,h=>by
  simp only [opers]at h;split at h
  ·rename_i h1;obtain rfl:=xp hC hr h1;exact EB hC hr h
  ·cases h
theorem Ac (hC:Fj C){b:Nat}:∀ {l:List (bg×List Nat)} {acc:List Fp} {s s' :St} {fr fr' :Fr},s.ro=true->iz C b l acc fr s=some (fr',s')->s' =s
 | [],_,s,s',fr,fr',hr,h=>by simp only [iz,aa,ae]at h; exact h.2.symm
 | (o,q)::r,_,s,s',fr,fr',hr,h=>by
  simp only [iz]at h;split at h
  ·split at h
   ·rename_i h1;obtain rfl:=xp hC hr h1;split at h
    ·exact Ac hC hr h
    ·cases h
   ·cases h
  ·cases h
theorem gF (hC:Fj C)(hL:W7 L):∀ {a:AC} {s s' :St} {fr fr' :Fr} {e:Ex},s.ro=true->bX C L a fr s=some (e,fr',s')->s' =s
 | .skip,s,s',fr,fr',e,hr,h=>by simp only [bX,aa,ae]at h; exact h.2.2.symm
 | .sn ops,s,s',fr,fr',e,hr,h=>by
  simp only [bX]at h;split at h
  ·rename_i h1;simp only [aa,ae]at h;obtain⟨_,_,rfl⟩:=h;exact EB hC hr h1
  ·cases h
 | .wY k ops,s,s',fr,fr',e,hr,h=>by
  simp only [bX]at h;split at h
  ·cases h
  ·rename_i hk;split at h
   ·rename_i h1;simp only [aa,ae]at h;obtain⟨_,_,rfl⟩:=h;have NP:k=0:=by
     rw [hr,fM]at hk;rcases ec k with h | h
     ·exact h
     ·have:Nat.blt 0 k=true:=au h;rw [this]at hk; cases hk
    subst NP;exact Ac (s:=s) hC hr h1
   ·cases h
 | .seq a b,s,s',fr,fr',e,hr,h=>by
  simp only [bX]at h;split at h
  ·rename_i h1;obtain rfl:=gF hC hL hr h1;exact gF hC hL hr h
  ·exact gF hC hL hr h
 | .cond c a b,s,s',fr,fr',e,hr,h=>by
  simp only [bX]at h;split at h
  ·exact gF hC hL hr h
  ·exact gF hC hL hr h
  ·cases h
 | .block id a,s,s',fr,fr',e,hr,h=>by
  simp only [bX]at h;split at h
  ·rename_i h1;obtain rfl:=gF hC hL hr h1;split at h
   ·simp only [aa,ae]at h; exact h.2.2.symm
   ·simp only [aa,ae]at h; exact h.2.2.symm
  ·exact gF hC hL hr h
 | .loop bV a,s,s',fr,fr',e,hr,h=>by
  simp only [bX]at h;exact hL _ _ _ _ _ _ _ hr h
 | .iK bV g ps x y,s,s',fr,fr',e,hr,h=>by
  simp only [bX]at h;exact hL _ _ _ _ _ _ _ hr h
 | .exit id,s,s',fr,fr',e,hr,h=>by simp only [bX,aa,ae]at h; exact h.2.2.symm
 | .ret,s,s',fr,fr',e,hr,h=>by simp only [bX,aa,ae]at h; exact h.2.2.symm
 | .bad,s,s',fr,fr',e,hr,h=>by simp [bX]at h
theorem uA (hC:Fj C):∀ {l:List (D×List D)} {s s' :St},s.ro=true->leave C l s=some s' ->s' =s
 | [],s,s',hr,h=>by simp only [leave,aa]at h; exact h.symm
 | (f,l)::r,s,s',hr,h=>by
  unfold leave at h;split at h
  ·rename_i hh; cases hh
  ·rename_i hh;simp only [eC,ae]at hh;obtain⟨⟨rfl,rfl⟩,rfl⟩:=hh;split at h
   ·rename_i h1;obtain rfl:=hC _ _ _ _ _ hr h1;exact uA hC hr h
   ·cases h
  ·rename_i hh;simp only [eC,ae]at hh;obtain⟨⟨rfl,rfl⟩,rfl⟩:=hh;exact uA hC hr h
  ·cases h
theorem Lz {CD:ay}(hC:Fj C)(Oz:Fj CD)(hL:W7 L)(hr:s.ro=true){fn:dU}{args:List D}(h:nV C CD L fn args s=some (d,s')):s' =s:=by
 unfold nV at h;split at h
 ·cases h
 ·rename_i h1;obtain rfl:=gF hC hL hr h1;split at h
  ·rename_i h2;obtain rfl:=uA Oz hr h2;split at h
   ·simp only [aa,ae]at h; exact h.2.symm
   ·cases h
  ·cases h
 ·cases h
theorem DG {T:Nat->Option dU}(hC:Fj C)(hL:W7 L):Fj (oZ T C L):=by
 intro f l s d s' hr h;unfold oZ at h;split at h
 ·unfold vt at h;split at h
  ·cases h
  ·rename_i h1;obtain rfl:=gF hC hL hr h1;split at h
   ·split at h
    ·simp only [aa,ae]at h; exact h.2.symm
    ·cases h
   ·cases h
  ·cases h
 ·cases h
theorem pa {T:Nat->Option dU}{H:ay}(hH:Fj H):∀n,Fj (dJ T H n)/\W7 (fe T H n)
 | 0=>⟨fun f l s d s' _ h=>by simp [dJ]at h,fun k a fr s e fr' s' _ h=>by simp [fe]at h⟩
 | n+1=>by
  obtain⟨i1,i2⟩:=pa (T:=T) hH n;refine⟨fun f l s d s' hr h=> ?_,fun k a fr s e fr' s' hr h=> ?_⟩
  ·simp only [dJ]at h;split at h
   ·exact hH _ _ _ _ _ hr h
   ·split at h
    ·exact Lz i1 (DG i1 i2) i2 hr h
    ·exact hH _ _ _ _ _ hr h
  ·cases hb:a.ig with
   | true=>
    cases a <;> first | (cases hb; done) | skip
    rw [jG,Bk hr]at h; cases h
   | false=>
    rw [iB _ _ _ _ hb]at h;split at h
    ·rename_i h1;obtain rfl:=gF i1 i2 hr h1;exact i2 _ _ _ _ _ _ _ hr h
    ·exact gF i1 i2 hr h
end Go.Ab
namespace Go.Ab
open Go
variable [eV]
variable {ρ ρ' :Gh} {w w' :World}{P:Program}{pn:jn}{G:Gl}{X:iw}{A:nA} {s s' :St}{env:Env}{a:Act}{lo:Nat}{d:D}{C:ay}{al:Option Nat}
theorem ck.YF {b:Bool}(h:ck ρ s w):ck ρ { s with ro:=b} w:=⟨h.lt,h.ok,h.no,h.live,h.size⟩
theorem ck.aaM {b:Bool}(h:ck ρ { s with ro:=b} w):ck ρ s w:=⟨h.lt,h.ok,h.no,h.live,h.size⟩
section
variable (he:ew ρ w lo env a.tmps)(hg:gN pn G ρ w)(hs:ck ρ s w)
include he hg hs
theorem KL (hC:dR pn P G C){f:FuncId} {args' :Array Operand}{args:List bP}(ha:rX G args' =some args)(h:cC C env s al (.call true f args)=some (d,s')){o:Oper}{tys:Array TypeId}
  (ho:o.op= .call { callee:= .value (.func f),args:=args',argTypes:=tys}):fc P ρ w env a.tmps d s' ((execOp a.eval o).run P w):=by
 simp only [cC]at h;split at h
 ·rename_i l hl;split at h
  ·rename_i d1 s1 h1;simp only [aa,ae]at h;obtain⟨rfl,rfl⟩:=h;have hr:=oz he hg _ _ l ha hl;have fY:(execOp a.eval o).run P w= .ok (.enter f (args'.map a.eval)) w:=by
    simp only [execOp,ho,resolve,Act.eval,Deferred.ofValue];have:=hC.enter _ _ _ _ h1 (.inr hr.yS) (args'.map a.eval) w;simpa [invoke] using this
   rw [fY];refine⟨rfl, ?_⟩;have:=hC.calls _ _ _ _ _ ρ w _ h1 hs.YF hg hr;have uL:s1= { s with ro:=true}:=hC.ro _ _ _ _ _ rfl h1;subst uL;have e:(List.map a.eval args'.toList).toArray=args'.map a.eval:=by simp [← Array.toList_map]
   rw [e]at this;refine this.mono fun en w' hp=> ?_;cases en with
   | returned v=>obtain ⟨ρ',k1,k2,k3⟩:=hp; exact ⟨ρ',k1,k2.aaM,k3⟩
   | panicked _=>exact hp
   | outgrown=>exact hp
  ·cases h
 ·cases h
end
end Go.Ab
namespace Go.Ab
open Go
variable [eV]
variable {ρ ρ' :Gh} {w w' :World}{P:Program}{pn:jn}{G:Gl}{X:iw}{A:nA} {s s' :St}{env:Env}{a:Act}{lo:Nat}{d:D}{C:ay}{al:Option Nat}
theorem AT {d:D} {v v' :Value}(h:aU ρ w d v) (h' :aU ρ w d v')(hd:xW d=true):v=v' :=by
 cases d <;> simp only [xW,dF]at hd <;> simp only [aU]at h h' <;> rw [h,h']
theorem A2:∀ {l:List D} {vs vs' :List Value},bw ρ w l vs->bw ρ w l vs' ->l.all xW=true->vs=vs'
 | [],_,_,h,h',_=>by simp only [bw]at h h'; rw [h,h']
 | d::l,_,_,h,h',hd=>by
  simp only [bw]at h h';obtain⟨v,r,rfl,h1,h2⟩:=h;obtain⟨v',r',rfl,FZ,xr⟩:=h';simp only [gQ,aB]at hd;rw [AT h1 FZ hd.1,A2 h2 xr hd.2]
theorem Jr {d:D} {v v' :Value}(h:aU ρ w d v) (h' :aU ρ w d v')(hd:Bw d=true):v=v' :=by
 cases d
 case agg l=>
  simp only [aU]at h h';obtain⟨vs,rfl,h1,_⟩:=h;obtain⟨vs',rfl,FZ,_⟩:=h';have:=A2 h1 FZ hd
  congr 1
  exact dH this
 all_goals exact AT h h' hd
theorem HG {sz:Nat}:∀ {l:List D} {vs vs' :List Value},gu ρ w sz l vs->gu ρ w sz l vs' ->l.all Bw=true->vs=vs'
 | [],_,_,h,h',_=>by simp only [gu]at h h'; rw [h,h']
 | d::l,_,_,h,h',hd=>by
  simp only [gu]at h h';obtain⟨v,r,rfl,h1,_,_,h2⟩:=h;obtain⟨v',r',rfl,FZ,_,_,xr⟩:=h';simp only [gQ,aB]at hd;rw [Jr h1 FZ hd.1,HG h2 xr hd.2]
theorem BC {w:World}{b o:Nat}{v:Value}(h:w.cell? ⟨b,o,none⟩=some v):w.setCell ⟨b,o,none⟩ v=w:=by
 have e:(w.setCell ⟨b,o,none⟩ v).heap=w.heap:=by
  apply Array.ext
  ·simp [World.setCell]
  ·intro i h1 h2;simp only [World.setCell,Array.getElem_modify];split
   ·rename_i hi;subst hi;simp only [World.cell?]at h;rw [cA h2]at h;cases hb:w.heap[b] with
    | cells c el f=>
     rw [hb]at h;simp only [Option.isSome_none,dF,jg]at h ⊢;have:c.setIfInBounds o v=c:=by
      apply Array.ext_getElem?;intro j;rw [dS];split
      ·rename_i hj; subst hj;rw [h,bT (gA.mp h).1]
      ·rfl
     rw [this]
    | _=>rfl
   ·rfl
 cases w;simp only [World.setCell]at e ⊢;rw [e]
theorem sR:∀ {vs:List Value} {w:World} {b o:Nat},(∀j u,vs[j]? =some u->w.cell? ⟨b,o+j,none⟩=some u)->w.setCells b o vs=w
 | [],_,_,_,_=>rfl
 | v::vs,w,b,o,h=>by
  show (w.setCell ⟨b,o,none⟩ v).setCells b (o+1) vs=w;rw [show w.setCell ⟨b,o,none⟩ v=w from BC (by simpa using h 0 v rfl)];exact sR fun j u hj=>by have:=h (j+1) u hj; rwa [show o+(j+1)=o+1+j by omega]at this
theorem AR (hs:ck ρ s w){sz:Nat}{x:D}{v:Value}{l:List D}{vs:List Value}(hx:aU ρ w x v)(hl:gu ρ w sz l vs)(h:iM s sz x l=some s'):
  ∃p n c w',v= .slice p n c/\l.length<=n/\Kp ρ w ρ w' /\ck ρ s' w' /\((l=[]/\w' =w)\/∃b y,p=some ⟨b,y,none⟩/\(storeCells ⟨b,y,none⟩ vs).run P w= .ok () w'):=by
 unfold iM at h;split at h
 ·rename_i o off len cp;split at h
  ·rename_i z ty es st lG;split at h
   ·rename_i h1 h2 h3;obtain rfl:=aD h1;have h2:=aD h2;have h3:=az h3;obtain⟨z0,k1,zw,⟨cur,c1,c2,c3⟩,wU,dQ⟩:=hs.ok _ _ lG;simp only [aU,Gh.at,k1]at hx;obtain⟨b,hb,q1,q2,q3,y,cap,q4,q5,q6,q7⟩:=hx;have hB:=wU b hb;have hex:ρ.ext b=es.length:=by have:=hB.ext; omega
    obtain⟨cs,f,qG⟩:=hB.shape;have IV:=hl.length;by_cases zF:l=[]
    ·subst zF;simp only [gu]at hl; subst hl;obtain⟨n1,n2⟩:=rZ (w' :=w) (i:=off) (l:=[]) (vs:=[]) (cs' :=cs) hs lG hb hex q1 rfl (by simp; omega) qG qG (by rw [nk]) (fun _ _=>rfl) rfl rfl rfl rfl h;exact⟨_,_,_,w,q4,by simp,n1,n2,.inl ⟨rfl,rfl⟩⟩
    ·have Zp:0 < l.length:=dT.2 zF;have hy:y=(off - ρ.sh b) * z:=by rcases q6 with q6 | q6 <;> omega
     have pG:=hB.room;have mD:y+vs.length<=ρ.cap b * z:=by
      rw [hy,IV,← Nat.add_mul]; exact dn _ (by omega)
     have pR:∀j,j < ρ.cap b * z->j < cs.size:=fun j hj=>by
      have:=(hB.cells j hj).1;rw [ey qG]at this;rcases aH j cs.size with h | h
      ·exact h
      ·simp [cL h]at this
     have abb:y+vs.length<=cs.size:=by
      rcases ec (y+vs.length) with h0 | h0
      ·omega
      ·have:=pR (y+vs.length - 1) (by omega); omega
     obtain⟨⟨cs',g1,g2⟩,g3,g4,g5,g6,g7⟩:=jm vs y w cs ty f qG abb;obtain⟨n1,n2⟩:=rZ (w' :=w.setCells b y vs) (i:=off) hs lG hb hex q1 hl (by omega) qG g1 (by rw [g2,hy]) g3 g4 g5 g6 g7 h;have fY:=run_storeCells_cells (P:=P) b y vs 0 w (fun j hj=>(hB.cells (y+0+j) (by omega)).1) (fun j hj=>(hB.cells (y+0+j) (by omega)).2) hl.one;exact⟨_,_,_,w.setCells b y vs,q4,h3,n1,n2,.inr ⟨b,y,rfl,fY⟩⟩
   ·rename_i h1 h2 h3;split at h
    ·rename_i h4;simp only [aa]at h; subst h;simp only [aB]at h4;obtain⟨⟨h5,h6⟩,h7,h8⟩:=h4;obtain rfl:=aD h1;have h3:=az h3;have h5:=az h5;have h6:=az h6;have h8:=D.pK _ _ h8;obtain⟨z0,k1,zw,⟨cur,c1,c2,c3⟩,wU,dQ⟩:=hs.ok _ _ lG;simp only [aU,Gh.at,k1]at hx;obtain⟨b,hb,q1,q2,q3,y,cap,q4,q5,q6,q7⟩:=hx;have hB:=wU b hb;by_cases zF:l=[]
     ·exact⟨_,_,_,w,q4,h3,Kp.refl _ _,hs,.inl ⟨zF,rfl⟩⟩
     ·have Zp:0 < l.length:=dT.2 zF;have hy:y=(off - ρ.sh b) * z:=by rcases q6 with q6 | q6 <;> omega
      have hE:gy ρ w z b y l:=by
       refine gy.of z0 _ _ fun i e he=> ?_;have hi:i < l.length:=(aj.mp he).1;have UK:es[off+i]? =some e:=by
        rw [← h8,de,bT hi,cX]at he;exact he
       obtain⟨u,u1,u2,u3⟩:=hB.elems (by omega) (off+i) e (by omega) (by omega) UK;have dN:e.st=true:=by
        have:=iF.1 dQ e (aM UK);exact this.2
       refine⟨u,u1,u2, ?_,dN⟩;rw [hy,← Nat.add_mul,show off - ρ.sh b+i=off+i - ρ.sh b by omega];exact u3
      obtain⟨vs0,r1,r2⟩:=hE.row;have zJ:=HG hl r1 h7;subst zJ;have pG:=hB.room;have IV:=hl.length;have mD:y+vs.length<=ρ.cap b * z:=by
       rw [hy,IV,← Nat.add_mul]; exact dn _ (by omega)
      have fY:=run_storeCells_cells (P:=P) b y vs 0 w (fun j hj=>(hB.cells (y+0+j) (by omega)).1) (fun j hj=>(hB.cells (y+0+j) (by omega)).2) hl.one;rw [fP,sR r2]at fY;exact⟨_,_,_,w,q4,h3,Kp.refl _ _,hs,.inr ⟨b,y,rfl,fY⟩⟩
    ·cases h
   ·cases h
  ·cases h
 ·split at h
  ·simp only [aa]at h; subst h;simp only [aU]at hx;rcases hx with ⟨_,_,rfl⟩ | ⟨_,ad,cap,rfl,_⟩
   ·exact⟨_,_,_,w,rfl,by simp,Kp.refl _ _,hs,.inl ⟨rfl,rfl⟩⟩
   ·exact⟨_,_,_,w,rfl,by simp,Kp.refl _ _,hs,.inl ⟨rfl,rfl⟩⟩
  ·cases h
 ·cases h
theorem C1 {x:D}{v:Value}{n:Nat}(h:o8 s 1 x=some n)(hx:aU ρ w x v):∃p c,v= .slice p n c:=by
 simp only [o8]at h;split at h
 ·simp only [aa]at h; subst h;simp only [aU]at hx;rcases hx with ⟨_,rfl,rfl⟩ | ⟨_,ad,cap,rfl,_⟩
  ·exact⟨_,_,rfl⟩
  ·exact⟨_,_,rfl⟩
 ·simp only [aa]at h; subst h;simp only [aU]at hx;obtain⟨p,c,rfl⟩:=Gh.jM hx fun _ _ ⟨_,_,_,_,_,q,_⟩=>⟨_,_,q⟩;exact⟨_,_,rfl⟩
 ·cases h
theorem R4 {z k:Nat}{l:List D}(h:(Nat.beq z k || (match l with | []=>true | _=>false))=true):z=k\/l=[]:=by
 simp only [eD]at h;rcases h with h | h
 ·exact .inl (aD h)
 ·cases l with
  | nil=>exact .inr rfl
  | cons _ _=>simp at h
section
variable (he:ew ρ w lo env a.tmps)(hg:gN pn G ρ w)(hs:ck ρ s w)
include he hg hs
theorem QX {t u e:TypeId}{m:Nat} {x' y' :Operand}{x y:bP}(hx:eO G x' =some x)(hy:eO G y' =some y)(hu:P.underlying t=some (.slice e))(fS:dO P e=some (m+1))
  (h:cC C env s al (.copy (m+1) x y)=some (d,s')){o:Oper}(ho:o.op= .call { callee:= .builtin .copy,args:= #[x',y'],argTypes:= #[t,u]}):fc P ρ w env a.tmps d s' ((execOp a.eval o).run P w):=by
 have fin:∀(dx:D) (l:List D) (vs:List Value) (n k:Nat),aU ρ w dx (a.eval x')->o8 s 1 dx=some n->gu ρ w (m+1) l vs->l.length=min k n->(Builtin.lenOf (a.eval y')).run P w= .ok k w->(Builtin.firstCells (m+1) (min k n) (a.eval y')).run P w= .ok vs.toArray w->
   oK (Fq (min (k:Int) (n:Int))) (iM s (m+1) dx l)=some (d,s')->fc P ρ w env a.tmps d s' ((execOp a.eval o).run P w):=by
  intro dx l vs n k Cu pQ hl tN hlen Fy h;obtain⟨h1,rfl⟩:=il h;obtain⟨p,nn,c,w',e1,e2,e3,e4,e5⟩:=AR (P:=P) hs Cu hl h1;obtain⟨p',c',e6⟩:=C1 pQ Cu;rw [e6]at e1;simp only [Value.slice.injEq]at e1;obtain⟨rfl,rfl,rfl⟩:=e1
  have dN:∀q,p' =some q->(storeCells q vs).run P w= .ok () w' :=fun q hq=>by
   rcases e5 with ⟨zF,rfl⟩ | ⟨b,yy,hp,fY⟩
   ·subst zF;simp only [gu]at hl; subst hl;rfl
   ·rw [hq]at hp; simp only [aa]at hp; subst hp; exact fY
  have aan:p' =none->w' =w:=fun hq=>by
   rcases e5 with ⟨_,h⟩ | ⟨b,yy,hp,_⟩
   ·exact h
   ·rw [hq]at hp; cases hp
  have abM:∀q:Nat,Nat.min q n=min q n:=fun _=>rfl;have fY:(Builtin.copy_ #[t,u] o.type #[a.eval x',a.eval y']).run P w= .ok (goInt (min k n:Nat)) w' :=by
   unfold Builtin.copy_;simp only [List.getElem?_toArray,aR,bY];rw [Sem.run_bind,run_underlying hu];rw [e6];simp only [Result.andThen_ok,Sem.run_bind,hlen,fT fS,abM,Fy];cases p' with
   | none=>simp [aan rfl]
   | some q=>simp [dN q rfl]
  rw [iD (b:= .copy) ho];simp only [builtin,fu,bG,ef];rw [Sem.run_bind,fY];have hc:((min k n:Nat):Int)=min (k:Int) (n:Int):=by omega
  exact .val e3 e4 (by simp only [aU,Fq,goInt,hc])
 simp only [cC]at h;split at h
 ·rename_i dx l Cu WK;split at h
  ·rename_i n h1 pQ;have hm:m+1=1:=aD h1;have JD :=ba hy he hg WK;simp only [aU]at JD;refine fin dx ((l.take n).map fun b=> .int .u8 b.toNat) ((l.take n).map fun b=>Value.int .u8 b.toNat) n l.length (ba hx he hg Cu) pQ (by rw [hm]; exact o7 _) (by simp [Nat.min_comm]) (by rw [JD]; simp [Builtin.lenOf,ByteArray.size_mk']) ?_ h;rw [JD,hm];simp only [Builtin.firstCells,Sem.run_pure]
   congr 1
   apply dH;simp [Nat.min_comm]
  ·cases h
 ·rename_i dx dy Pw Cu WK;split at h
  ·rename_i z l n hit pQ;split at h
   ·rename_i h1 h2;have hz:=R4 h1;have hyv:=ba hy he hg WK;rcases tY hs hit hyv with ⟨rfl,p,c,hv⟩ | ⟨b,q,c,hv,hE⟩
    ·refine fin dx [] [] n 0 (ba hx he hg Cu) pQ rfl (by simp) (by rw [hv]; rfl) ?_ (by simpa using h);rw [hv];cases p with
     | none=>simp [Builtin.firstCells]
     | some q=>simp [Builtin.firstCells,loadCells,loadCellsFrom]
    ·by_cases zF:l=[]
     ·subst zF;refine fin dx [] [] n 0 (ba hx he hg Cu) pQ rfl (by simp) (by rw [hv]; rfl) ?_ (by simpa using h);rw [hv]; simp [Builtin.firstCells,loadCells,loadCellsFrom]
     ·obtain rfl:=hz.resolve_right zF;obtain⟨vs,g1,g2⟩:=(hE.take n).row;refine fin dx (l.take n) vs n l.length (ba hx he hg Cu) pQ g1 (by simp [Nat.min_comm]) (by rw [hv]; rfl) ?_ h;rw [hv];have tN:=g1.length;have Fc:∀j u,vs[j]? =some u->w.cell? ((⟨b,q,none⟩:Addr).add j)=some u:=fun j u hj=>by rw [Addr.add_mid]; exact g2 j u hj
      exact run_firstCells_some w (m+1) (min l.length n) _ _ c vs (by rw [tN]; simp [Nat.min_comm]) Fc
   ·cases h
  ·cases h
 ·cases h
theorem Ea {t:TypeId}{sz:Nat}{z:D} {x' :Operand}{x:bP}(hx:eO G x' =some x)
  (hk:(∃q e,P.underlying t=some (.map q e)/\z= .gK [])\/∃e,P.underlying t=some (.slice e)/\dO P e=some sz/\jH P e=some z/\0 < sz)
  (h:cC C env s al (.clear sz z x)=some (d,s')){o:Oper}(ho:o.op= .call { callee:= .builtin .clear,args:= #[x'],argTypes:= #[t]}):fc P ρ w env a.tmps d s' ((execOp a.eval o).run P w):=by
 have fin:∀w',(Builtin.clear_ #[t] o.type #[a.eval x']).run P w= .ok (.tuple #[]) w' ->(execOp a.eval o).run P w= .ok (.value (.tuple #[])) w' :=by
  intro w' hw;rw [iD (b:= .clear) ho];simp only [builtin,fu,bG,ef];rw [Sem.run_bind,hw]; rfl
 have Z8:∃q,P.underlying t=some q:=by
  rcases hk with ⟨_,_,h,_⟩ | ⟨_,h,_⟩ <;> exact ⟨_,h⟩
 simp only [cC]at h;split at h
 ·rename_i hp;have hv:=ba hx he hg hp;simp only [aU]at hv;simp only [aa,ae]at h;obtain⟨rfl,rfl⟩:=h;obtain⟨q,hq⟩:=Z8;have hr:(Builtin.clear_ #[t] o.type #[a.eval x']).run P w= .ok (.tuple #[]) w:=by
   unfold Builtin.clear_;simp [hv,run_underlying hq]
  rw [fin _ hr];exact .rep hs (by simp [aU,bw])
 ·rename_i ob hp;have hv:=ba hx he hg hp;split at h
  ·rename_i es c lG;obtain⟨h1,rfl⟩:=il h;obtain⟨b,ces,k1,one,hb,hM⟩:=hs.ok _ _ lG;simp only [aU,Gh.at,k1]at hv;obtain⟨b',jl,hv⟩:=hv;obtain rfl:=one.2 _ jl;obtain⟨q,hq⟩:=Z8;obtain⟨n1,n2⟩:=lV (ces' := #[]) hs lG k1 one hb (by simp [fO]) h1;have hr:(Builtin.clear_ #[t] o.type #[a.eval x']).run P w= .ok (.tuple #[]) { w with heap:=w.heap.setIfInBounds b' (.map #[] c)}:=by
    unfold Builtin.clear_;simp [hv,run_underlying hq,kD hb,kH _ hb]
   rw [fin _ hr];exact .val n1 n2 (by simp [aU,bw])
  ·cases h
 ·rename_i dx h1 h2 hp;clear h1 h2;have hv:=ba hx he hg hp;split at h
  ·rename_i n hn;split at h
   ·rename_i dQ;obtain⟨h1,rfl⟩:=il h;rcases hk with ⟨q,e,hu,rfl⟩ | ⟨e,hu,fS,hz,KU⟩
    ·simp [eI,D.st,D.sc]at dQ
    ·obtain⟨zv,z1,z2,z3⟩:=kF (w:=w) hz;have zo:=kq (ρ:=ρ) (w:=w) zv z z2;have Ic:zv.cells.size=sz/\z.st=true:=by
      have:=iF.1 dQ z (by simp);exact⟨by rw [zo.size this.2]; exact this.1,this.2⟩
     have qG:(Builtin.zeroCells zv.cells n).toList=(List.replicate n zv.cells.toList).flatten:=sd zv.cells (by omega) n;obtain⟨p,nn,c,w',e1,e2,e3,e4,e5⟩:=AR (P:=P) hs hv (gu.replicate zo Ic.1 Ic.2 n) h1;obtain⟨p',c',e6⟩:=C1 hn hv;rw [e6]at e1;simp only [Value.slice.injEq]at e1;obtain⟨rfl,rfl,rfl⟩:=e1;have hr:(Builtin.clear_ #[t] o.type #[a.eval x']).run P w= .ok (.tuple #[]) w' :=by
      unfold Builtin.clear_;simp only [List.getElem?_toArray,aR];rw [Sem.run_bind,run_underlying hu,e6];rcases e5 with ⟨zF,rfl⟩ | ⟨b,yy,WD,fY⟩
      ·have Fo:n=0:=by cases n with | zero=>rfl | succ n=>simp [lA]at zF
       subst Fo;cases p' <;> simp
      ·subst WD;rw [← qG]at fY;cases n with
       | zero=>
        have hz0:(Builtin.zeroCells zv.cells 0).toList=[]:=by rw [qG]; rfl
        rw [hz0]at fY;simp only [storeCells,Sem.run_pure,Result.ok.injEq,true_and]at fY;subst fY;simp
       | succ n=>simp [z1,fY]
     rw [fin _ hr];exact .val e3 e4 (by simp [aU,bw])
   ·cases h
  ·cases h
 ·cases h
end
end Go.Ab
namespace Go.Ab
open Go
variable [eV]
variable {ρ ρ' :Gh} {w w' :World}{P:Program}{pn:jn}{G:Gl}{X:iw}{A:nA} {s s' :St}{env:Env}{a:Act}{lo:Nat}{d:D}{C:ay}{al:Option Nat}
theorem O1 (hs:ck ρ s w){z cp:Nat}{l:List D}{vs rest:List Value}{cs:Array Value}{e:TypeId}{k f1 f2:Nat}(hf:cs.size<=f1)(z0:0 < z)(hm:s.mk' al (.arr z e l 0)=some (k,s'))(hl:gu ρ w z l vs)(qG:cs.toList=vs++rest)(fS:cs.size=cp * z)(hle:l.length<=cp)
  (hh:w'.heap=w.heap.push (.cells cs e (f1,f2)))(ho:w'.os=w.os)(ht:w'.tape=w.tape)(hu:w'.output=w.output):
  ∃ρ',Kp ρ w ρ' w' /\ck ρ' s' w' /\aU ρ' w' (.sl k 0 l.length l.length) (.slice (some ⟨w.heap.size,0,none⟩) l.length cp):=by
 obtain⟨n1,n2,n3,n4⟩:=xO (w' :=w') hs hm z l.length cp hh ho ht hu (fun hK nL hb=>by
  refine⟨z0,by simp [Gh.new],by omega,⟨w.heap.size,nL.1,by simp [Gh.new],fun b h _=>nL.2 b h⟩,fun b jl => ?_,hl.eI⟩;obtain rfl:=nL.2 b jl;refine⟨by simp [Gh.new],by simp [Gh.new],by simp [Gh.new]; exact hle,fun j hj=> ?_,⟨_,_,hb⟩,fun _ i d h1 h2 h3=> ?_⟩
  ·simp only [Gh.new,eu]at hj;rw [← fS]at hj;refine⟨by rw [ey hb]; simp [hj], ?_⟩;have: ¬ f1<=j:=by omega
   simp [World.frozen?,hb,this]
  ·obtain⟨v,v1,v2,v3,v4⟩:=(hl.mono hK).get (w' :=w') (l7 hb qG) i d h3;refine⟨v,v1,v2, ?_⟩;simpa [Gh.new] using v3)
 refine⟨_,n1,n2, ?_⟩;simp only [aU,Gh.at,n4];exact⟨w.heap.size,n3,by simp [Gh.new],by simp [Gh.new],aq _,0,cp,rfl,hle,.inr (by simp),by simp [Gh.new]⟩
section
variable (he:ew ρ w lo env a.tmps)(hg:gN pn G ρ w)(hs:ck ρ s w)
include he hg hs
theorem zP {t u e:TypeId} {x' :Operand}{x:bP}(hx:eO G x' =some x)(ht:P.underlying t=some .string)(hu:P.underlying u=some (.slice e))(he8:P.underlying e=some (.int .u8))(h:cC C env s al (.oX e x)=some (d,s')){o:Oper}(ho:o.op= .convert t u x'):
  fc P ρ w env a.tmps d s' ((execOp a.eval o).run P w):=by
 simp only [cC]at h;split at h
 ·rename_i l hp;have hv:=ba hx he hg hp;simp only [aU]at hv;split at h
  ·rename_i hle;have hle:=az hle;split at h
   ·rename_i k s2 hm;simp only [aa,ae]at h;obtain⟨rfl,rfl⟩:=h;let S:ByteArray:=⟨⟨l⟩⟩
    have hS:S.size=l.length:=by simp [S,ByteArray.size_mk']
    have pR:l.length<=grownCap w S.size 0 e:=by
     have:=grownCap_ge w S.size 0 e;omega
    have qG:(Lib.bytesCells w e S).toList=(l.map fun b=>Value.int .u8 b.toNat)++List.replicate (grownCap w S.size 0 e - S.size) (.int .u8 0):=by
     simp [Lib.bytesCells,S]
    have fS:(Lib.bytesCells w e S).size=grownCap w S.size 0 e * 1:=by
     have:=congrArg List.length qG;simp at this;omega
    have Zu:(Lib.bytesWorld w e S).heap=w.heap.push (.cells (Lib.bytesCells w e S) e ((Lib.bytesCells w e S).size,(Lib.bytesCells w e S).size+1)):=by
     apply Array.ext_getElem?;intro i;rcases gZ i w.heap.size with hi | hi | hi
     ·rw [Lib.bytesWorld_at_old w e S i hi,js,aK (by omega)]
     ·subst hi; rw [Lib.bytesWorld_at_new,js,bT rfl]
     ·rw [cL (by rw [Lib.bytesWorld_size]; omega),cL (by simp; omega)]
    obtain⟨ρ',n1,n2,n3⟩:=O1 (w' :=Lib.bytesWorld w e S) (cs:=Lib.bytesCells w e S) (cp:=grownCap w S.size 0 e) hs (aq _) Nat.one_pos hm (o7 l) qG fS (by simpa using pR) Zu rfl rfl rfl;have hr:(execOp a.eval o).run P w= .ok (.value (.slice (some ⟨w.heap.size,0,none⟩) l.length (grownCap w S.size 0 e))) (Lib.bytesWorld w e S):=by
     simp only [execOp,ho,hv];rw [Sem.run_bind,Lib.run_convert_string_bytes w t u e S ht hu he8,hS];rfl
    rw [hr];simp only [aJ]at n3;exact .val n1 n2 n3
   ·cases h
  ·cases h
 ·cases h
end
end Go.Ab
