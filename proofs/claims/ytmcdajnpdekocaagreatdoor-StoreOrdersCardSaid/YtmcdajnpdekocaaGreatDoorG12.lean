/- Part. -/
import Derived.Test.YtmcdajnpdekocaaGreatDoorG11
import Derived.Laws.Runes
import Derived.Laws.BytesString
import Derived.Laws.Cover4
import Derived.Laws.Cells
set_option linter.unusedSectionVars false
set_option linter.unusedSimpArgs false
set_option linter.unusedVariables false
namespace Go.Ab
open Go
variable [Vals]
variable {ρ ρ' :Gh} {w w' :World}{P:Program}{pn:Pins}{G:Gl}{X:Exts}{A:Adv} {s s' :St}{env:Env}{a:Act}{lo:Nat}{d:D}{C:zAa}{al:Option Nat}
theorem zVa:∀ {l:List (Nat×Nat×Recv)} {t:Nat} {r:Nat×Recv},tblR l t=some r→(t,r)∈l
 | [],_,_,h=>by simp [tblR]at h
 | (x,g)::r,t,f,h=>by
  simp only [tblR]at h
  split at h
  ·rename_i hb
   obtain rfl:=Nat.eq_of_beq_eq_true hb
   simp only [Option.some.injEq]at h; subst h
   exact List.mem_cons_self
  ·exact List.mem_cons_of_mem _ (zVa h)
theorem zSt {name:String}{t f:Nat}{r:Recv}(h:tblR (zJo P name) t=some (f,r)):∃i m ptr,P.types[t]? =some i∧i.methods.find? (·.name==name)=some m∧m.func=some (f,ptr)∧recvR P t m.path.toList ptr=some r:=by
 have hm:=zVa h
 unfold zJo at hm
 simp only [List.mem_filterMap,Prod.exists]at hm
 obtain⟨i,t',h1,h2⟩:=hm
 rw [List.mem_zipIdx_iff_getElem?]at h1
 split at h2
 ·rename_i m hm
  split at h2
  ·rename_i g ptr hf
   simp only [Option.map_eq_some_iff,Prod.mk.injEq]at h2
   obtain⟨r',h2,rfl,rfl,rfl⟩:=h2
   exact⟨i,m,ptr,by simpa using h1,hm,hf,h2⟩
  ·cases h2
 ·cases h2
theorem zHw {e:Option TypeDesc}{k:Nat}(h:zQd e=k)(hk:k=0∨k=1):∃q,e=some q:=by
 unfold zQd at h
 split at h <;> first | exact ⟨_,rfl⟩ | omega
theorem zTc {xt:TypeId}{x:Place}{ptr:Bool}{wr:Option String}(h:(zQd (P.underlying xt)=0∧ptr=true)∨(zQd (P.underlying xt)=1∧ptr=false)):(receiverAt xt x ptr wr).run P w=(x.get xt).run P w:=by
 have hq:∃q,P.underlying xt=some q:=h.elim (fun h=>zHw h.1 (.inl rfl)) (fun h=>zHw h.1 (.inr rfl))
 obtain⟨q,hq⟩:=hq
 rw [hq]at h
 unfold receiverAt
 rw [Sem.run_bind,run_underlying hq]
 rcases h with ⟨h,rfl⟩ | ⟨h,rfl⟩ <;> cases q <;> first
  | (simp [zQd]at h; done)
  | (cases x <;> rfl)
theorem rcv_addr {xt:TypeId}{a:Addr}{wr:Option String}(h:zQd (P.underlying xt)=1):(receiverAt xt (.var a) true wr).run P w= .ok (.pointer (some a)) w:=by
 obtain⟨q,hq⟩:=zHw h (.inr rfl)
 rw [hq]at h
 unfold receiverAt
 rw [Sem.run_bind,run_underlying hq]
 cases q <;> first
  | (simp [zQd]at h; done)
  | rfl
theorem yBm {off:Nat}{x y:D}{v:Value}(h:fadd off x=some y)(hv:Rep ρ w x v):∃a,v= .pointer (some a)∧Rep ρ w y (.pointer (some (a.add off))):=by
 unfold fadd at h
 split at h
 ·rename_i o c
  simp only [Option.some.injEq]at h; subst h
  simp only [Rep]at hv ⊢
  unfold Gh.at at *
  split at hv
  ·exact hv.elim
  ·obtain⟨q,rfl⟩:=hv; exact ⟨q,rfl,_,rfl⟩
  ·obtain⟨b,hb,rfl⟩:=hv; exact ⟨_,rfl,b,hb,by rw [Addr.add_mid]⟩
 ·rename_i o i c e
  simp only [Option.some.injEq]at h; subst h
  simp only [Rep]at hv ⊢
  unfold Gh.at at *
  split at hv
  ·exact hv.elim
  ·obtain⟨q,rfl⟩:=hv; exact ⟨q,rfl,_,rfl⟩
  ·obtain⟨b,hb,h1,h2,h3,rfl⟩:=hv; exact ⟨_,rfl,b,hb,h1,h2,h3,by rw [Addr.add_mid,Nat.add_assoc]⟩
 ·rename_i e c
  simp only [Option.some.injEq]at h; subst h
  simp only [Rep]at hv ⊢
  obtain⟨b,x,u,h1,h2,h3,h4,rfl⟩:=hv
  exact⟨_,rfl,b,x,u,h1,h2,h3,h4,by rw [Addr.add_mid,Nat.add_assoc]⟩
 ·cases h
theorem path_one {p:Array FieldStep}{st:FieldStep}(h:p.toList=[st]):p.isEmpty=false:=by
 cases hp:p.isEmpty with
 | false=>rfl
 | true=>
  have:p= #[]:=by simpa using hp
  rw [this]at h; cases h
theorem recv_ok (hs:zPl ρ s w){name:String}{t f n:Nat}{r:Recv} {v v' :D}{u:Value}(h:tblR (zJo P name) t=some (f,r))(hr:zQw s v r=some v')(hv:Rep ρ w v u):
  ∃u',(method (n+1) t u name).run P w= .ok (f,u') w∧Rep ρ w v' u' :=by
 obtain⟨i,m,ptr,g1,g2,g3,g4⟩:=zSt h
 unfold recvR at g4
 split at g4
 ·rename_i hpath
  have key:(zQd (P.underlying t)=0∧ptr=true)∨(zQd (P.underlying t)=1∧ptr=false)→r= .self→∃u',(method (n+1) t u name).run P w= .ok (f,u') w∧Rep ρ w v' u' :=by
   rintro hk rfl
   simp only [zQw,Option.some.injEq]at hr; subst hr
   refine⟨u, ?_,hv⟩
   simp only [method,typeInfo]
   simp [zHt g1,g2,hpath,follow,g3,zTc hk,Place.get]
  split at g4
  ·rename_i hk
   simp only [Option.some.injEq]at g4
   exact key (.inl ⟨hk,rfl⟩) g4.symm
  ·rename_i hk
   simp only [Option.some.injEq]at g4
   exact key (.inr ⟨hk,rfl⟩) g4.symm
  ·cases g4
 ·rename_i st hpath
  have hne:=path_one hpath
  split at g4
  ·rename_i fs hst
   split at g4
   ·rename_i fl hfl
    have stepD:st.deref=true→∀(a:Addr) (m0:Nat),u= .pointer (some a)→zPo P fl.type=some (m0+1)→(follow [st] t (.val u)).run P w= .ok (fl.type,.var (a.add fl.offset)) w:=by
     intro hd a m0 hu hsz
     subst hu
     simp [follow,run_underlying hst,hfl,hd,Place.get,asAddr,fieldPlace,zAk hsz]
    split at g4
    ·rename_i hd
     split at g4
     ·rename_i hk
      simp only [Bool.and_eq_true,Nat.beq_eq]at hk
      obtain⟨hk,hptr⟩:=hk
      subst hptr
      split at g4
      ·rename_i m0 hsz
       simp only [Option.some.injEq]at g4; subst g4
       simp only [zQw]at hr
       obtain⟨a,hu,ha⟩:=yBm hr hv
       refine⟨_, ?_,ha⟩
       simp only [method,typeInfo]
       simp [zHt g1,g2,hpath,stepD hd a m0 hu hsz,g3,hne,rcv_addr hk]
      ·cases g4
     split at g4
     ·rename_i m0 sz hkb hsz hsh
      simp only [Option.some.injEq]at g4; subst g4
      simp only [zQw]at hr
      split at hr
      ·rename_i p hp
       obtain⟨a,hu,ha⟩:=yBm hp hv
       obtain⟨u',k1,k2⟩:=zTj (P:=P) hs hsh hr ha
       have hk:(zQd (P.underlying fl.type)=0∧ptr=true)∨(zQd (P.underlying fl.type)=1∧ptr=false):=by
        simp only [Bool.or_eq_true,Bool.and_eq_true,Nat.beq_eq,Bool.not_eq_true']at hkb
        exact hkb
       have k1' :(loadVar fl.type (a.add fl.offset)).run P w= .ok u' w:=by
        simpa [Instr.loadAt,Instr.sureAddr] using k1
       refine⟨u', ?_,k2⟩
       simp only [method,typeInfo]
       simp [zHt g1,g2,hpath,stepD hd a m0 hu hsz,g3,hne,zTc hk,Place.get,k1']
      ·cases hr
     ·cases g4
    ·rename_i hd
     split at g4
     ·rename_i sz hkb hsh
      simp only [Option.some.injEq]at g4; subst g4
      simp only [zQw]at hr
      split at hr
      ·rename_i cs
       simp only [Rep]at hv
       obtain⟨vs,rfl,hl,hsc⟩:=hv
       obtain⟨u',k1,k2⟩:=zFk (P:=P) (w:=w) hl hsc hsh hr
       have hk:(zQd (P.underlying fl.type)=0∧ptr=true)∨(zQd (P.underlying fl.type)=1∧ptr=false):=by
        simp only [Bool.or_eq_true,Bool.and_eq_true,Nat.beq_eq,Bool.not_eq_true']at hkb
        exact hkb
       refine⟨u', ?_,k2⟩
       simp only [method,typeInfo]
       simp [zHt g1,g2,hpath,follow,run_underlying hst,hfl,hd,k1,g3,hne,zTc hk,Place.get]
      ·cases hr
     ·cases g4
   ·cases g4
  ·cases g4
 ·cases g4
section
variable (he:EnR ρ w lo env a.tmps)(hg:GlOk pn G ρ w)(hs:zPl ρ s w)
include he hg hs
theorem yFh (hC:ClO pn P G C) {x' :Operand}{name:String}{x:Opd} {args' :Array Operand}{args:List Opd}(hx:opd G x' =some x)(ha:opds G args' =some args)(h:opF C env s al (.invoke (zJo P name) x args)=some (d,s')){o:Oper}{tys:Array TypeId}
  (ho:o.op= .call { callee:= .invoke x' name,args:=args',argTypes:=tys}):OpOk P ρ w env a.tmps d s' ((execOp a.eval o).run P w):=by
 simp only [opF]at h
 split at h
 ·rename_i t v l hxv hl
  split at h
  ·rename_i f r hf
   split at h
   ·rename_i v' hrv
    have hr:=zEm he hg _ _ l ha hl
    have hv:=opR hx he hg hxv
    simp only [Rep]at hv
    obtain⟨u,hv,hu⟩:=hv
    obtain⟨u',hmeth,hu'⟩:=recv_ok (n:=P.types.size+99) hs hf hrv hu
    have hq:RepL ρ w (v' ::l) (u' ::List.map a.eval args'.toList):=by simp only [RepL]; exact ⟨u',_,rfl,hu',hr⟩
    have hrun:(execOp a.eval o).run P w= .ok (.enter f (#[u']++args'.map a.eval)) w:=by
     simp only [execOp,ho,resolve,hv]
     have:=hC.enter _ _ _ _ h (.inr hq.yS) (#[u']++args'.map a.eval) w
     have hd:P.types.size+Made.depth=(P.types.size+99)+1:=rfl
     have hex:(#[Value.iface t u]++args'.map a.eval).extract 1 (#[Value.iface t u]++args'.map a.eval).size=args'.map a.eval:=by
      apply Array.ext'
      simp only [Array.toList_extract,Array.toList_append,Array.toList_map,Array.size_append,Array.size_map,List.size_toArray,List.length_cons,List.length_nil,List.cons_append,List.nil_append,List.extract_eq_take_drop,List.drop_succ_cons,List.drop_zero]
      exact List.take_of_length_le (by simp)
     have h0:(#[Value.iface t u]++args'.map a.eval)[0]? =some (.iface t u):=by simp [Array.getElem?_append]
     have hm1:(callMethod (.iface t u) name (args'.map a.eval)).run P w= .ok (.enter f (#[u']++args'.map a.eval)) w:=by
      simp [callMethod,hd,hmeth,this]
     show (do let d ← (pure { target:= .fn (.method name) #[],args:= #[Value.iface t u]++args'.map a.eval}:Sem Deferred); Go.invoke d.target d.args:Sem Next).run P w=_
     simp only [Sem.run_bind,Sem.run_pure,Result.andThen_ok,invoke,h0,hex]
     exact hm1
    rw [hrun]
    refine⟨rfl, ?_⟩
    have:=hC.calls _ _ _ _ _ ρ w (u' ::List.map a.eval args'.toList) h hs hg (by simp only [RepL]; exact ⟨u',_,rfl,hu',hr⟩)
    have e:(u' ::List.map a.eval args'.toList).toArray= #[u']++args'.map a.eval:=by
     apply Array.ext'; simp
    rwa [e]at this
   ·cases h
  ·cases h
 ·cases h
end
end Go.Ab
namespace Go.Ab
open Go
variable [Vals]
variable {ρ ρ' :Gh} {w w' :World}{P:Program}{pn:Pins}{G:Gl}{X:Exts}{A:Adv} {s s' :St}{env:Env}{a:Act}{lo:Nat}{d:D}{C:zAa}{al:Option Nat}
section
variable (he:EnR ρ w lo env a.tmps)(hg:GlOk pn G ρ w)(hs:zPl ρ s w)
include he hg hs
theorem zXz {t e:TypeId}{m bytes:Nat}{i:TypeInfo}{z:D} {l' c' :Operand}{l c:Opd}(hl:opd G l' =some l)(hc:opd G c' =some c)(hu:P.underlying t=some (.slice e))(hsz:zPo P e=some (m+1))(hz:zPu P e=some z)(hi:P.info? e=some i)(hb:i.bytes=bytes)
  (h:opF C env s al (.mkslice (m+1) bytes e z l c)=some (d,s')){o:Oper}(ho:o.op= .makeSlice t l' c'):OpOk P ρ w env a.tmps d s' ((execOp a.eval o).run P w):=by
 simp only [opF]at h
 split at h
 ·rename_i dl dc hdl hdc
  have hlv:=opR hl he hg hdl
  have hcv:=opR hc he hg hdc
  split at h
  ·rename_i nl nc hnl hnc
   split at h
   ·rename_i h1 h2 h3
    simp only [Bool.and_eq_true]at h1
    obtain⟨h1,hall⟩:=h1
    have h1:=Nat.le_of_ble_eq_true h1
    have h2:=Nat.le_of_ble_eq_true h2
    have h3:=Nat.le_of_ble_eq_true h3
    have hmx:mxE=2147483648:=rfl
    split at h
    ·rename_i k s2 hm
     simp only [Option.some.injEq,Prod.mk.injEq]at h
     obtain⟨rfl,rfl⟩:=h
     obtain⟨kl,vl,e1,e2⟩:∃k n,a.eval l' = .int k n∧(0≤n∧n.toNat=nl):=by
      unfold idx at hnl
      split at hnl
      ·split at hnl
       ·simp only [Option.some.injEq]at hnl
        simp only [Rep]at hlv
        exact⟨_,_,hlv,by assumption,hnl⟩
       ·cases hnl
      ·cases hnl
     obtain⟨kc,vc,e3,e4⟩:∃k n,a.eval c' = .int k n∧(0≤n∧n.toNat=nc):=by
      unfold idx at hnc
      split at hnc
      ·split at hnc
       ·simp only [Option.some.injEq]at hnc
        simp only [Rep]at hcv
        exact⟨_,_,hcv,by assumption,hnc⟩
       ·cases hnc
      ·cases hnc
     obtain⟨zv,z1,z2,z3⟩:=zCi (w:=w) hz
     have hzv:=zCg (ρ:=ρ) (w:=w) zv z z2
     have hzs:zv.cells.size=m+1∧z.st=true:=by
      have:=zBf.1 hall z (by simp)
      exact⟨by rw [hzv.size this.2]; exact this.1,this.2⟩
     have hel:vl=(nl:Int):=by omega
     have hec:vc=(nc:Int):=by omega
     let cs:Array Value:=(Array.range (nc * (m+1))).map (zv.cells[· % (m+1)]!)
     have hcs:cs.toList=(List.replicate nc zv.cells.toList).flatten:=by
      have:=zHg zv.cells (by omega) nc
      rw [hzs.1]at this
      exact this
     have hsplit:cs.toList=(List.replicate nl zv.cells.toList).flatten++(List.replicate (nc - nl) zv.cells.toList).flatten:=by
      rw [hcs,← List.flatten_append,List.replicate_append_replicate]
      congr 2; omega
     obtain⟨ρ',n1,n2,n3⟩:=zTg (w' :=w.alloc (.cells cs e)) (cs:=cs) (cp:=nc) hs (Nat.succ_pos m) hm (RepC.replicate hzv hzs.1 hzs.2 nl) hsplit (by simp [cs]) (by simpa using h1) rfl rfl rfl rfl
     have hr:(execOp a.eval o).run P w= .ok (.value (.slice (some ⟨w.heap.size,0,none⟩) nl nc)) (w.alloc (.cells cs e)):=by
      simp only [execOp,ho,e1,e3,hel,hec]
      have hti:(typeInfo e).run P w= .ok i w:=by simp [typeInfo,hi]
      have w1:=wrap_small (nl:Int) (by omega) (by omega)
      have w2:=wrap_small (nc:Int) (by omega) (by omega)
      have hbig: ¬ ((i.bytes:Int) * (nc:Int) > 2 ^ 48):=by
       rw [hb]
       have:((bytes:Int) * (nc:Int))=((nc * bytes:Nat):Int):=by rw [Int.natCast_mul,Int.mul_comm]
       rw [this]; omega
      have hl1: ¬ ((nl:Int) < 0):=by omega
      have hc1: ¬ ((nc:Int) < 0):=by omega
      have hlc: ¬ ((nl:Int) > (nc:Int)):=by omega
      have hroom: ¬ (nc * i.bytes > roomBytes):=by
       have:roomBytes=2 ^ 47:=rfl
       rw [this,hb]; omega
      have hbig' : ¬ ((2:Int) ^ 48 < (i.bytes:Int) * (nc:Int)):=hbig
      have hask:(askRoom (nc * i.bytes)).run P w= .ok () w:=by unfold askRoom; rw [if_neg hroom]; rfl
      unfold Instr.makeSlice
      rw [Sem.run_bind,Sem.run_bind,run_underlying hu]
      simp only [Result.andThen_ok,asInt,asIntOf,Sem.run_bind,Sem.run_pure,hti,w1,w2]
      have hbig2: ¬ ((281474976710656:Int) < (i.bytes:Int) * (nc:Int)):=hbig'
      simp [hl1,hc1,hlc,hbig2,hask,zAk hsz]
      have hle:nl≤nc:=h1
      by_cases h0:nc * (m+1)=0
      ·have hn0:nc=0:=by
        rcases Nat.mul_eq_zero.1 h0 with h | h
        ·exact h
        ·omega
       have hc0:cs= #[]:=by apply Array.ext'; rw [hcs,hn0]; rfl
       rw [hc0]
       have hE:∀f:Nat→Value,Array.map f (Array.range 0)= #[]:=fun f=>by apply Array.ext'; simp
       simp [hle,hn0,newRow,newObj,hE]
       rfl
      ·simp [hle,h0,z1,hzs.1,newRow,newObj]
       rfl
     rw [hr]
     simp only [List.length_replicate]at n3
     exact .val n1 n2 n3
    ·cases h
   ·cases h
  ·cases h
 ·cases h
end
end Go.Ab
namespace Go.Ab
open Go
variable [Vals]
variable {ρ ρ' :Gh} {w w' :World}{P:Program}{pn:Pins}{G:Gl}{X:Exts}{A:Adv} {s s' :St}{env:Env}{a:Act}{lo:Nat}{d:D}{C:zAa}{al:Option Nat}
theorem zEx {z b:Nat}:∀ {l:List D} {y:Nat} {bs:List UInt8},bytesOf l=some bs→(z=1∨l=[])→RepE ρ w z b y l→∃ns:List Int,ns.length=l.length∧(∀j n,ns[j]? =some n→w.cell? ⟨b,y+j,none⟩=some (.int .u8 n))∧
  ∀p:List UInt8,ns.foldl (fun (r:ByteArray) n=>r.push (UInt8.ofNat n.toNat)) ⟨⟨p⟩⟩=⟨⟨p++bs⟩⟩
 | [],y,bs,h,_,_=>by
  simp only [bytesOf,Option.some.injEq]at h; subst h
  exact⟨[],rfl,fun j n hj=>by simp at hj,fun p=>by simp⟩
 | d::r,y,bs,h,hz,hE=>by
  obtain rfl:z=1:=by rcases hz with h | h; exact h; cases h
  unfold bytesOf at h
  split at h
  ·rename_i hh; cases hh
  ·rename_i n r' hh
   simp only [List.cons.injEq]at hh
   obtain⟨rfl,rfl⟩:=hh
   split at h
   ·rename_i bs' hb
    simp only [Option.some.injEq]at h; subst h
    simp only [RepE]at hE
    obtain⟨⟨v,h1,h2,h3,h4,h5⟩,h6⟩:=hE
    simp only [Rep]at h1; subst h1
    obtain⟨ns,g1,g2,g3⟩:=zEx hb (.inl rfl) h6
    refine⟨n::ns,by simp [g1],fun j m hj=> ?_,fun p=> ?_⟩
    ·cases j with
     | zero=>
      simp only [List.getElem?_cons_zero,Option.some.injEq]at hj; subst hj
      have:=h4 0 (by simp [Value.cells])
      simpa [Value.cells] using this
     | succ j=>
      simp only [List.getElem?_cons_succ]at hj
      have:=g2 j m hj
      rwa [show y+(j+1)=y+1+j by omega]
    ·simp only [List.foldl_cons]
     have:(⟨⟨p⟩⟩:ByteArray).push (UInt8.ofNat n.toNat)=⟨⟨p++ [UInt8.ofNat n.toNat]⟩⟩:=by simp [ByteArray.push]
     rw [this,g3]; simp
   ·cases h
  ·cases h
theorem zHp {z b:Nat}:∀ {l:List D} {y:Nat} {bs:List UInt8},zHu l=some bs→(z=1∨l=[])→RepE ρ w z b y l→∃ns:List Int,ns.length=l.length∧(∀j n,ns[j]? =some n→w.cell? ⟨b,y+j,none⟩=some (.int .i32 n))∧
  ∀p:List UInt8,ns.foldl (fun (r:ByteArray) n=>r++Utf8.encode n) ⟨⟨p⟩⟩=⟨⟨p++bs⟩⟩
 | [],y,bs,h,_,_=>by
  simp only [zHu,Option.some.injEq]at h; subst h
  exact⟨[],rfl,fun j n hj=>by simp at hj,fun p=>by simp⟩
 | d::r,y,bs,h,hz,hE=>by
  obtain rfl:z=1:=by rcases hz with h | h; exact h; cases h
  unfold zHu at h
  split at h
  ·rename_i hh; cases hh
  ·rename_i n r' hh
   simp only [List.cons.injEq]at hh
   obtain⟨rfl,rfl⟩:=hh
   split at h
   ·rename_i bs' hb
    simp only [Option.some.injEq]at h; subst h
    simp only [RepE]at hE
    obtain⟨⟨v,h1,h2,h3,h4,h5⟩,h6⟩:=hE
    simp only [Rep]at h1; subst h1
    obtain⟨ns,g1,g2,g3⟩:=zHp hb (.inl rfl) h6
    refine⟨n::ns,by simp [g1],fun j m hj=> ?_,fun p=> ?_⟩
    ·cases j with
     | zero=>
      simp only [List.getElem?_cons_zero,Option.some.injEq]at hj; subst hj
      have:=h4 0 (by simp [Value.cells])
      simpa [Value.cells] using this
     | succ j=>
      simp only [List.getElem?_cons_succ]at hj
      have:=g2 j m hj
      rwa [show y+(j+1)=y+1+j by omega]
    ·simp only [List.foldl_cons]
     have:(⟨⟨p⟩⟩:ByteArray)++Utf8.encode n=⟨⟨p++(Utf8.encode n).data.toList⟩⟩:=ByteArray.mk_append_mk p (Utf8.encode n).data.toList
     rw [this,g3]; simp
   ·cases h
  ·cases h
section
variable (he:EnR ρ w lo env a.tmps)(hg:GlOk pn G ρ w)(hs:zPl ρ s w)
include he hg hs
omit he hg hs in
theorem nil_or {z:Nat}{l:List D}(h:(Nat.beq z 1 || (match l with | []=>true | _=>false))=true):z=1∨l=[]:=by
 simp only [Bool.or_eq_true]at h
 rcases h with h | h
 ·exact .inl (Nat.eq_of_beq_eq_true h)
 ·cases l with
  | nil=>exact .inr rfl
  | cons _ _=>simp at h
omit he hg hs in
theorem zRo {b y:Nat}{k:IntKind}{ns:List Int}(h:∀j n,ns[j]? =some n→w.cell? ⟨b,y+j,none⟩=some (.int k n)):(loadCells ⟨b,y,none⟩ ns.length).run P w= .ok (ns.map (Value.int k)).toArray w:=by
 have:=run_loadCells_list (P:=P) (w:=w) ⟨b,y,none⟩ (ns.map (Value.int k)) (fun j v hj=>by
  rw [List.getElem?_map,Option.map_eq_some_iff]at hj
  obtain⟨n,hn,rfl⟩:=hj
  rw [Addr.add_mid]
  exact h j n hn)
 simpa using this
theorem zOh {t u e:TypeId} {x' :Operand}{x:Opd}(hx:opd G x' =some x)(ht:P.underlying t=some (.slice e))(he8:P.underlying e=some (.int .u8))(hu:P.underlying u=some .string)(h:opF C env s al (.bytesToStr x)=some (d,s')){o:Oper}(ho:o.op= .convert t u x'):
  OpOk P ρ w env a.tmps d s' ((execOp a.eval o).run P w):=by
 simp only [opF]at h
 split at h
 ·rename_i p hp
  have hv:=opR hx he hg hp
  split at h
  ·rename_i z l hit
   split at h
   ·rename_i bs hz hb
    simp only [Option.some.injEq,Prod.mk.injEq]at h
    obtain⟨rfl,rfl⟩:=h
    have hz:=nil_or hz
    have fin:(∃q n c,a.eval x' = .slice q n c)→(Conv.bytesToString (a.eval x')).run P w= .ok (.string ⟨⟨bs⟩⟩) w→OpOk P ρ w env a.tmps (.str bs) s ((execOp a.eval o).run P w):=fun ⟨q,n,c,hsl⟩ hr=>by
     have hrun:(execOp a.eval o).run P w= .ok (.value (.string ⟨⟨bs⟩⟩)) w:=by
      rw [hsl]at hr
      simp only [execOp,ho,convert,hsl]
      simp [run_underlying ht,run_underlying hu,run_underlying he8,hr]
     rw [hrun]; exact .rep hs (by simp [Rep])
    rcases zJc hs hit hv with ⟨rfl,q,c,hv⟩ | ⟨b,y,c,hv,hE⟩
    ·refine fin ⟨_,_,_,hv⟩ ?_
     simp only [bytesOf,Option.some.injEq]at hb; subst hb
     rw [hv]
     cases q with
     | none=>simp [Conv.bytesToString]; rfl
     | some ad=>
      have:=run_bytesToString (P:=P) w ad 0 c [] (by simp [loadCells,loadCellsFrom])
      exact this
    ·refine fin ⟨_,_,_,hv⟩ ?_
     obtain⟨ns,g1,g2,g3⟩:=zEx hb hz hE
     have hl:=zRo (P:=P) g2
     rw [g1]at hl
     rw [hv,run_bytesToString w _ _ c ns hl]
     have:=g3 []
     simp only [List.nil_append]at this
     exact congrArg (fun q=>Result.ok (Value.string q) w) this
   ·cases h
  ·cases h
 ·cases h
theorem zOg {t u e:TypeId} {x' :Operand}{x:Opd}(hx:opd G x' =some x)(ht:P.underlying t=some (.slice e))(he8:P.underlying e=some (.int .i32))(hu:P.underlying u=some .string)(h:opF C env s al (.runesToStr x)=some (d,s')){o:Oper}(ho:o.op= .convert t u x'):
  OpOk P ρ w env a.tmps d s' ((execOp a.eval o).run P w):=by
 simp only [opF]at h
 split at h
 ·rename_i p hp
  have hv:=opR hx he hg hp
  split at h
  ·rename_i z l hit
   split at h
   ·rename_i bs hz hb
    simp only [Option.some.injEq,Prod.mk.injEq]at h
    obtain⟨rfl,rfl⟩:=h
    have hz:=nil_or hz
    have fin:(∃q n c,a.eval x' = .slice q n c)→(Conv.runesToString (a.eval x')).run P w= .ok (.string ⟨⟨bs⟩⟩) w→OpOk P ρ w env a.tmps (.str bs) s ((execOp a.eval o).run P w):=fun ⟨q,n,c,hsl⟩ hr=>by
     have hrun:(execOp a.eval o).run P w= .ok (.value (.string ⟨⟨bs⟩⟩)) w:=by
      rw [hsl]at hr
      simp only [execOp,ho,convert,hsl]
      simp [run_underlying ht,run_underlying hu,run_underlying he8,hr]
     rw [hrun]; exact .rep hs (by simp [Rep])
    rcases zJc hs hit hv with ⟨rfl,q,c,hv⟩ | ⟨b,y,c,hv,hE⟩
    ·refine fin ⟨_,_,_,hv⟩ ?_
     simp only [zHu,Option.some.injEq]at hb; subst hb
     rw [hv]
     cases q with
     | none=>simp [Conv.runesToString]; rfl
     | some ad=>
      have:=run_runesToString (P:=P) w ad 0 c [] (by simp [loadCells,loadCellsFrom])
      exact this
    ·refine fin ⟨_,_,_,hv⟩ ?_
     obtain⟨ns,g1,g2,g3⟩:=zHp hb hz hE
     have hl:=zRo (P:=P) g2
     rw [g1]at hl
     rw [hv,run_runesToString w _ _ c ns hl]
     have:=g3 []
     simp only [List.nil_append]at this
     exact congrArg (fun q=>Result.ok (Value.string q) w) this
   ·cases h
  ·cases h
 ·cases h
end
end Go.Ab
namespace Go.Ab
open Go
variable {s s' :St}{C:zAa}{L:zBl}{e:Env}{al:Option Nat}{d:D}
theorem ofO_st0 {x:Option D}(h:ofO s x=some (d,s')):s' =s:=by cases x <;> simp [ofO]at h; exact h.2.symm
theorem zGa (hr:s.ro=true)(o:Nat)(x:Obj):s.set o x=none:=by unfold St.set; rw [hr]
theorem zXc (hr:s.ro=true)(al:Option Nat)(x:Obj):s.mk' al x=none:=by unfold St.mk'; rw [hr]
theorem zDz (hr:s.ro=true)(sz:Nat)(p v:D):zCd s sz p v=none:=by
 unfold zCd
 repeat' split
 all_goals first
  | rfl
  | exact zGa hr _ _
theorem yGn (hr:s.ro=true){sz:Nat}{p:D}{l:List D}(h:zBn s sz p l=some s'):s' =s:=by
 unfold zBn at h
 repeat' split at h
 all_goals first
  | (cases h; done)
  | (rw [zGa hr]at h; cases h; done)
  | (simp only [Option.some.injEq]at h; exact h.symm)
theorem zYx (hr:s.ro=true){sz ty:Nat}{x:D}{l:List D}(h:zAn s al sz ty x l=some (d,s')):s' =s:=by
 unfold zAn at h
 simp only [zGa hr,zXc hr]at h
 repeat' split at h
 all_goals first
  | (cases h; done)
  | (simp only [Option.some.injEq,Prod.mk.injEq]at h; exact h.2.symm)
  | (simp at h; done)
theorem extD_ro (hr:s.ro=true){k:Ext}{l:List D}(h:extD s k l=some (d,s')):s' =s:=by
 unfold extD at h
 simp only [zDz hr,ofS]at h
 repeat' split at h
 all_goals first
  | (cases h; done)
  | (simp only [Option.some.injEq,Prod.mk.injEq]at h; exact h.2.symm)
  | (simp at h; done)
def RoC (C:zAa):Prop:=∀f l s d s',s.ro=true→C f l s=some (d,s')→s' =s
def RoL (L:zBl):Prop:=∀k a fr s e fr' s',s.ro=true→L k a fr s=some (e,fr',s')→s' =s
theorem opF_ro (hC:RoC C)(hr:s.ro=true){p:AOp}(h:opF C e s al p=some (d,s')):s' =s:=by
 cases p <;> simp only [opF,zGa hr,zXc hr,zDz hr,ofS]at h
 all_goals
  (repeat' split at h)
  all_goals first
   | (cases h; done)
   | exact ofO_st0 h
   | (simp only [Option.some.injEq,Prod.mk.injEq]at h; exact h.2.symm)
   | exact hC _ _ _ _ _ hr h
   | exact zYx hr h
   | exact extD_ro hr h
   | (rename_i h1; simp only [Option.some.injEq,Prod.mk.injEq]at h; obtain ⟨rfl,rfl⟩:=h; exact yGn hr h1)
   | trace_state
theorem zNa (hC:RoC C)(hr:s.ro=true){b:Nat}{o:zPk} {fr fr' :Fr}(h:oper C b o fr s=some (fr',s')):s' =s:=by
 unfold oper at h
 split at h
 ·split at h
  ·split at h
   ·simp only [Option.some.injEq,Prod.mk.injEq]at h; exact h.2.symm
   ·cases h
  ·split at h
   ·split at h
    ·simp only [Option.some.injEq,Prod.mk.injEq]at h; exact h.2.symm
    ·cases h
   ·cases h
  ·split at h
   ·split at h
    ·split at h
     ·simp only [Option.some.injEq,Prod.mk.injEq]at h; exact h.2.symm
     ·cases h
    ·cases h
   ·cases h
  ·split at h
   ·rename_i h1
    simp only [Option.some.injEq,Prod.mk.injEq]at h
    obtain⟨_,rfl⟩:=h
    exact opF_ro hC hr h1
   ·cases h
 ·simp only [Option.some.injEq,Prod.mk.injEq]at h; exact h.2.symm
 ·cases h
theorem zVr (hC:RoC C){b:Nat}:∀ {l:List zPk} {s s' :St} {fr fr' :Fr},s.ro=true→opers C b l fr s=some (fr',s')→s' =s
 | [],s,s',fr,fr',hr,h=>by simp only [opers,Option.some.injEq,Prod.mk.injEq]at h; exact h.2.symm
 | o::r,s,s',fr,fr',hr,h=>by
  simp only [opers]at h
  split at h
  ·rename_i h1
   obtain rfl:=zNa hC hr h1
   exact zVr hC hr h
  ·cases h
theorem zSd (hC:RoC C){b:Nat}:∀ {l:List (zPk×List Nat)} {acc:List Fp} {s s' :St} {fr fr' :Fr},s.ro=true→zBk C b l acc fr s=some (fr',s')→s' =s
 | [],_,s,s',fr,fr',hr,h=>by simp only [zBk,Option.some.injEq,Prod.mk.injEq]at h; exact h.2.symm
 | (o,q)::r,_,s,s',fr,fr',hr,h=>by
  simp only [zBk]at h
  split at h
  ·split at h
   ·rename_i h1
    obtain rfl:=zNa hC hr h1
    split at h
    ·exact zSd hC hr h
    ·cases h
   ·cases h
  ·cases h
theorem zAu (hC:RoC C)(hL:RoL L):∀ {a:AC} {s s' :St} {fr fr' :Fr} {e:Ex},s.ro=true→zAe C L a fr s=some (e,fr',s')→s' =s
 | .skip,s,s',fr,fr',e,hr,h=>by simp only [zAe,Option.some.injEq,Prod.mk.injEq]at h; exact h.2.2.symm
 | .reg ops,s,s',fr,fr',e,hr,h=>by
  simp only [zAe]at h
  split at h
  ·rename_i h1
   simp only [Option.some.injEq,Prod.mk.injEq]at h
   obtain⟨_,_,rfl⟩:=h
   exact zVr hC hr h1
  ·cases h
 | .dreg k ops,s,s',fr,fr',e,hr,h=>by
  simp only [zAe]at h
  split at h
  ·cases h
  ·rename_i hk
   split at h
   ·rename_i h1
    simp only [Option.some.injEq,Prod.mk.injEq]at h
    obtain⟨_,_,rfl⟩:=h
    have hk0:k=0:=by
     rw [hr,Bool.true_and]at hk
     rcases Nat.eq_zero_or_pos k with h | h
     ·exact h
     ·have:Nat.blt 0 k=true:=Nat.ble_eq_true_of_le h
      rw [this]at hk; cases hk
    subst hk0
    exact zSd (s:=s) hC hr h1
   ·cases h
 | .seq a b,s,s',fr,fr',e,hr,h=>by
  simp only [zAe]at h
  split at h
  ·rename_i h1
   obtain rfl:=zAu hC hL hr h1
   exact zAu hC hL hr h
  ·exact zAu hC hL hr h
 | .cond c a b,s,s',fr,fr',e,hr,h=>by
  simp only [zAe]at h
  split at h
  ·exact zAu hC hL hr h
  ·exact zAu hC hL hr h
  ·cases h
 | .block id a,s,s',fr,fr',e,hr,h=>by
  simp only [zAe]at h
  split at h
  ·rename_i h1
   obtain rfl:=zAu hC hL hr h1
   split at h
   ·simp only [Option.some.injEq,Prod.mk.injEq]at h; exact h.2.2.symm
   ·simp only [Option.some.injEq,Prod.mk.injEq]at h; exact h.2.2.symm
  ·exact zAu hC hL hr h
 | .loop keep a,s,s',fr,fr',e,hr,h=>by
  simp only [zAe]at h
  exact hL _ _ _ _ _ _ _ hr h
 | .rangef keep g ps x y,s,s',fr,fr',e,hr,h=>by
  simp only [zAe]at h
  exact hL _ _ _ _ _ _ _ hr h
 | .exit id,s,s',fr,fr',e,hr,h=>by simp only [zAe,Option.some.injEq,Prod.mk.injEq]at h; exact h.2.2.symm
 | .ret,s,s',fr,fr',e,hr,h=>by simp only [zAe,Option.some.injEq,Prod.mk.injEq]at h; exact h.2.2.symm
 | .bad,s,s',fr,fr',e,hr,h=>by simp [zAe]at h
theorem zJa (hC:RoC C):∀ {l:List (D×List D)} {s s' :St},s.ro=true→leave C l s=some s' →s' =s
 | [],s,s',hr,h=>by simp only [leave,Option.some.injEq]at h; exact h.symm
 | (f,l)::r,s,s',hr,h=>by
  unfold leave at h
  split at h
  ·rename_i hh; cases hh
  ·rename_i hh
   simp only [List.cons.injEq,Prod.mk.injEq]at hh
   obtain⟨⟨rfl,rfl⟩,rfl⟩:=hh
   split at h
   ·rename_i h1
    obtain rfl:=hC _ _ _ _ _ hr h1
    exact zJa hC hr h
   ·cases h
  ·rename_i hh
   simp only [List.cons.injEq,Prod.mk.injEq]at hh
   obtain⟨⟨rfl,rfl⟩,rfl⟩:=hh
   exact zJa hC hr h
  ·cases h
theorem yIo {CD:zAa}(hC:RoC C)(hCD:RoC CD)(hL:RoL L)(hr:s.ro=true){fn:AFn}{args:List D}(h:zQf C CD L fn args s=some (d,s')):s' =s:=by
 unfold zQf at h
 split at h
 ·cases h
 ·rename_i h1
  obtain rfl:=zAu hC hL hr h1
  split at h
  ·rename_i h2
   obtain rfl:=zJa hCD hr h2
   split at h
   ·simp only [Option.some.injEq,Prod.mk.injEq]at h; exact h.2.symm
   ·cases h
  ·cases h
 ·cases h
theorem zWv {T:Nat→Option AFn}(hC:RoC C)(hL:RoL L):RoC (zQj T C L):=by
 intro f l s d s' hr h
 unfold zQj at h
 split at h
 ·unfold zLo at h
  split at h
  ·cases h
  ·rename_i h1
   obtain rfl:=zAu hC hL hr h1
   split at h
   ·split at h
    ·simp only [Option.some.injEq,Prod.mk.injEq]at h; exact h.2.symm
    ·cases h
   ·cases h
  ·cases h
 ·cases h
theorem zEs {T:Nat→Option AFn}{H:zAa}(hH:RoC H):∀n,RoC (zPn T H n)∧RoL (zPq T H n)
 | 0=>⟨fun f l s d s' _ h=>by simp [zPn]at h,fun k a fr s e fr' s' _ h=>by simp [zPq]at h⟩
 | n+1=>by
  obtain⟨i1,i2⟩:=zEs (T:=T) hH n
  refine⟨fun f l s d s' hr h=> ?_,fun k a fr s e fr' s' hr h=> ?_⟩
  ·simp only [zPn]at h
   split at h
   ·exact hH _ _ _ _ _ hr h
   ·split at h
    ·exact yIo i1 (zWv i1 i2) i2 hr h
    ·exact hH _ _ _ _ _ hr h
  ·cases hb:a.isRangef with
   | true=>
    cases a <;> first | (cases hb; done) | skip
    rw [zBs,zPi hr]at h; cases h
   | false=>
    rw [zBb _ _ _ _ hb]at h
    split at h
    ·rename_i h1
     obtain rfl:=zAu i1 i2 hr h1
     exact i2 _ _ _ _ _ _ _ hr h
    ·exact zAu i1 i2 hr h
end Go.Ab
namespace Go.Ab
open Go
variable [Vals]
variable {ρ ρ' :Gh} {w w' :World}{P:Program}{pn:Pins}{G:Gl}{X:Exts}{A:Adv} {s s' :St}{env:Env}{a:Act}{lo:Nat}{d:D}{C:zAa}{al:Option Nat}
theorem zPl.ro_of {b:Bool}(h:zPl ρ s w):zPl ρ { s with ro:=b} w:=⟨h.lt,h.ok,h.no,h.live,h.size⟩
theorem zPl.of_ro {b:Bool}(h:zPl ρ { s with ro:=b} w):zPl ρ s w:=⟨h.lt,h.ok,h.no,h.live,h.size⟩
section
variable (he:EnR ρ w lo env a.tmps)(hg:GlOk pn G ρ w)(hs:zPl ρ s w)
include he hg hs
theorem yFk (hC:ClO pn P G C){f:FuncId} {args' :Array Operand}{args:List Opd}(ha:opds G args' =some args)(h:opF C env s al (.call true f args)=some (d,s')){o:Oper}{tys:Array TypeId}
  (ho:o.op= .call { callee:= .value (.func f),args:=args',argTypes:=tys}):OpOk P ρ w env a.tmps d s' ((execOp a.eval o).run P w):=by
 simp only [opF]at h
 split at h
 ·rename_i l hl
  split at h
  ·rename_i d1 s1 h1
   simp only [Option.some.injEq,Prod.mk.injEq]at h
   obtain⟨rfl,rfl⟩:=h
   have hr:=zEm he hg _ _ l ha hl
   have hrun:(execOp a.eval o).run P w= .ok (.enter f (args'.map a.eval)) w:=by
    simp only [execOp,ho,resolve,Act.eval,Deferred.ofValue]
    have:=hC.enter _ _ _ _ h1 (.inr hr.yS) (args'.map a.eval) w
    simpa [invoke] using this
   rw [hrun]
   refine⟨rfl, ?_⟩
   have:=hC.calls _ _ _ _ _ ρ w _ h1 hs.ro_of hg hr
   have hs1:s1= { s with ro:=true}:=hC.ro _ _ _ _ _ rfl h1
   subst hs1
   have e:(List.map a.eval args'.toList).toArray=args'.map a.eval:=by simp [← Array.toList_map]
   rw [e]at this
   refine this.mono fun en w' hp=> ?_
   cases en with
   | returned v=>obtain ⟨ρ',k1,k2,k3⟩:=hp; exact ⟨ρ',k1,k2.of_ro,k3⟩
   | panicked _=>exact hp
   | outgrown=>exact hp
  ·cases h
 ·cases h
end
end Go.Ab
