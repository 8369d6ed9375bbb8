/-
 Lemmas, put together: HN, HO, HP, HS, HZ, HV, HW, HU, IA, HR, HT, IB, IC, ID, IE, raceF, raceH, raceI.
 No conditions.
-/
import Derived.Test.YtelegonboeacaaaraceA3
import Derived.Lib.AppendZerosOnto
import Derived.Lib.Builder
import Derived.Lib.UnsafeStr
import Derived.Shelf.Sort.Plain
import Derived.Shelf.Slices.In.SortNone
import Derived.Shelf.SlSortCmp.NoneTotal
import Derived.Shelf.SlicesG.Cmp
import Derived.Shelf.SlSortCmp.Whole1
import Derived.Test.YtelegonboeacaaaraceA1
set_option linter.unusedSimpArgs false
set_option linter.unusedVariables false
set_option linter.unusedSectionVars false
section
namespace Go.Sx
open Go.RowKit
set_option linter.unusedVariables false
variable {α β:Type} [Enc α] {P:Program} {hp:Hp} {nx:Nat}
def nA (Fs:List (Option Nat)) (src:List (Option Nm)) (i0:Int) (j:Nat) (i:Int):Option Nm:=bif i == i0 then src.getD j none else (Fs.getD j none).map fun F=>.s F i
theorem nA_at (Fs src i0 j):nA Fs src i0 j i0 = src.getD j none:=by simp [nA]
theorem nA_ne {Fs src i0 j i} (h:i≠i0):nA Fs src i0 j i = (Fs.getD j none).map fun F=>.s F i:=by
 unfold nA; rw [show (i == i0) = false from by simpa using h]; rfl
def nilLeaf (D:DE α) (j:Nat) (a:α):Prop:=∃ e,(osOf (D.dl a))[j]? = some (e,0,[])
def Off (D:DE α) (j:Nat) (xs:List α) (g:Int→Chunk) (i0:Int):Prop:=∀ i:Nat,i < xs.length→(i:Int)≠i0→g i = chD D j (xs.getD i default)
def OffN (D:DE α) (j:Nat) (xs:List α) (i0:Int):Prop:=∀ i:Nat,i < xs.length→(i:Int)≠i0→nilLeaf D j (xs.getD i default)
def killsOf (f sk:Option Nat):Hp:=(match f with | some f=>[(Nm.s f 0,Chunk.dead)] | none=>[])++(match sk with | some n=>[(Nm.t n,Chunk.dead)] | none=>[])
def rdsOf (r:Nat) (f sk:Option Nat):List Nm:=Nm.t r::((match f with | some f=>[Nm.s f 0] | none=>[])++(match sk with | some n=>[Nm.t n] | none=>[]))
def ltO (f:Option Nat) (n:Nat):Bool:=match f with | some f=>Nat.blt f n | none=>true
def neO (f:Option Nat) (n:Nat):Bool:=match f with | some f=>!(f == n) | none=>true
theorem ghost_A (nx:Nat) (D:DE α) (xs:List α) (r:Nat) (e:TypeId) (Fs:List (Option Nat)) (src:List (Option Nm)) (i0:Int) (cs':List SV) (j:Nat) (f sk:Option Nat)
  (hR:getH hp (.t r) = .row e (flN D (nA Fs src i0) 0 xs)) (hcs:cs' = flN D (nA (Fs.set j (some nx)) (src.set j (some (.s nx i0))) i0) 0 xs)
  (hb:(Fs.getD j none,src.getD j none,Nat.blt r nx,ltO f nx,ltO sk nx,neO sk r,Nat.blt j D.no,Nat.blt j Fs.length,Nat.blt j src.length) = (f,sk.map .t,true,true,true,true,true,true,true))
  (hF:match f with | some f=>∃ g,getE hp (.s f 0) = .fam g∧Off D j xs g i0 | none=>OffN D j xs i0)
  (hS:∀ i:Nat,i < xs.length→(i:Int) = i0→match sk with | some n=>getH hp (.t n) = chD D j (xs.getD i default) | none=>nilLeaf D j (xs.getD i default)) :
  Ghost P nx 1 (rdsOf r f sk) hp ((.s nx 0,.fam (famD D j xs))::(.t r,.row e cs')::killsOf f sk):=by
 simp only [Prod.mk.injEq,Nat.blt_eq] at hb
 obtain ⟨b1,b2,b3,b4,b5,b6,b7,b8,b9⟩:=hb
 have hat:∀ i:Nat,(i:Int) = i0→nA Fs src i0 j i = sk.map .t:=fun i hi=>by rw [hi,nA_at]; exact b2
 have hne:∀ i:Nat,(i:Int)≠i0→nA Fs src i0 j i = f.map fun F=>.s F i:=fun i hi=>by rw [nA_ne hi,b1]
 refine ghost_col (N':=nA (Fs.set j (some nx)) (src.set j (some (.s nx i0))) i0) hR hcs (by simp [rdsOf]) b3 b7 (fun j' i hj=>?_) (fun i=>?_) (fun i hi=>⟨fun k hk=>?_,fun hk=>?_⟩) (fun i i' hi hi' k h1 h2=>?_) (fun p hp=>?_)
 ·unfold nA
  simp only [List.getD_eq_getElem?_getD]
  rw [List.getElem?_set_ne (Ne.symm hj),List.getElem?_set_ne (Ne.symm hj)]
 ·unfold nA
  simp only [List.getD_eq_getElem?_getD]
  rw [List.getElem?_set_self (by omega),List.getElem?_set_self (by omega)]
  by_cases h:i = i0
  ·subst h; simp
  ·rw [show (i == i0) = false from by simpa using h]; rfl
 ·by_cases h0:(i:Int) = i0
  ·rw [hat i h0] at hk
   cases sk with
   | none=>cases hk
   | some n =>
    simp only [Option.map_some,Option.some.injEq] at hk
    subst hk
    have hs:=hS i hi h0
    simp only [ltO,neO,Nat.blt_eq,Bool.not_eq_true',beq_eq_false_iff_ne] at b5 b6
    exact ⟨by simp [rdsOf],hs,by simpa using b6,b5,⟨(.t n,.dead),by simp [killsOf],rfl⟩⟩
  ·rw [hne i h0] at hk
   cases f with
   | none=>cases hk
   | some f =>
    simp only [Option.map_some,Option.some.injEq] at hk
    subst hk
    obtain ⟨g,h1,h2⟩:=hF
    simp only [ltO,Nat.blt_eq] at b4
    have hx:∃ p ∈ hp,p.1.key = (Nm.s f i).key:=by
     clear hR hS
     induction hp with
     | nil=>cases h1
     | cons p l ih =>
      by_cases hk:p.1.key = (Nm.s f i).key
      ·exact ⟨p,by simp,hk⟩
      ·simp only [getE] at h1
       rw [Nm.eqk_no (show p.1.key≠(Nm.s f 0).key from hk),cond_false] at h1
       obtain ⟨q,hq,he⟩:=ih h1
       exact ⟨q,by simp [hq],he⟩
    refine ⟨by simp [rdsOf,Nm.key],?_,by simp,b4,⟨(.s f 0,.dead),by simp [killsOf],rfl⟩⟩
    rw [getE_get _ hx,getE_key (show (Nm.s f i).key = (Nm.s f 0).key from rfl),h1]
    exact chD_at D j _ g i (h2 i hi h0)
 ·by_cases h0:(i:Int) = i0
  ·rw [hat i h0] at hk
   cases sk with
   | none=>exact hS i hi h0
   | some n=>cases hk
  ·rw [hne i h0] at hk
   cases f with
   | none=>exact hF i hi h0
   | some f=>cases hk
 ·by_cases h0:(i:Int) = i0 <;> by_cases h0':(i':Int) = i0
  ·omega
  ·rw [hat i h0] at h1; rw [hne i' h0'] at h2
   cases sk <;> cases f <;> simp at h1 h2; rw [← h2] at h1; cases h1
  ·rw [hne i h0] at h1; rw [hat i' h0'] at h2
   cases sk <;> cases f <;> simp at h1 h2; rw [← h2] at h1; cases h1
  ·rw [hne i h0] at h1; rw [hne i' h0'] at h2
   cases f with
   | none=>cases h1
   | some f=>simp at h1 h2; rw [← h2] at h1; simp at h1; omega
 ·simp only [killsOf,List.mem_append] at hp
  rcases hp with hp | hp
  ·cases f with
   | none=>cases hp
   | some f =>
    simp only [List.mem_singleton] at hp
    subst hp
    simp only [ltO,Nat.blt_eq] at b4
    exact ⟨rfl,b4,by simp [Nm.key]⟩
  ·cases sk with
   | none=>cases hp
   | some n =>
    simp only [List.mem_singleton] at hp
    subst hp
    simp only [ltO,neO,Nat.blt_eq,Bool.not_eq_true',beq_eq_false_iff_ne] at b5 b6
    exact ⟨rfl,b5,by simpa [Nm.key] using b6⟩
theorem set_off {xs:List α} {i:Int} (k:0≤i∧i < (xs.length:Int)) (y:α) {q:Nat} (hn:(q:Int)≠i):(xs.set i.toNat y).getD q default = xs.getD q default:=by
 rw [List.getD_eq_getElem?_getD,List.getD_eq_getElem?_getD,List.getElem?_set_ne (by omega)]
theorem off_set {D:DE α} {j:Nat} (xs:List α) (i:Int) (y:α) (k:0≤i∧i < (xs.length:Int)):Off D j (xs.set i.toNat y) (famD D j xs) i:=fun q hq hn=>by
 rw [famD,ixD_nat,set_off k y hn]
theorem off_hole {D:DE α} {j:Nat} (xs:List α) (i:Int) (y:α) (k:0≤i∧i < (xs.length:Int)) (c:Chunk):Off D j (xs.set i.toNat y) (upI (famD D j xs) i c) i:=fun q hq hn=>by
 unfold upI
 rw [show ((q:Int) == i) = false from by simpa using hn]
 exact off_set xs i y k q hq hn
theorem nil_dft (D:DE α) {j:Nat} (hj:j < D.no):nilLeaf D j (default:α):=by
 obtain ⟨e,n,cs,h1,h2⟩:=chD_row D hj (default:α)
 have:=D.dft _ (List.mem_of_getElem? h1)
 simp only [Prod.mk.injEq] at this
 exact ⟨e,by rw [h1,this.1,this.2]⟩
theorem rep_dft (n q:Nat):(List.replicate n (default:α)).getD q default = default:=by
 rw [List.getD_eq_getElem?_getD]
 by_cases h:q < n
 ·rw [List.getElem?_replicate,if_pos h]; rfl
 ·rw [List.getElem?_replicate,if_neg h]; rfl
theorem offN_rep {D:DE α} {j:Nat} (n:Nat) (hj:Nat.blt j D.no = true) (i0:Int):OffN D j (List.replicate n (default:α)) i0:=fun q _ _=>by
 rw [rep_dft]; exact nil_dft D (by simpa [Nat.blt_eq] using hj)
theorem S_set {xs:List α} {i:Int} (H:α→Prop) {y:α} (k:0≤i∧i < (xs.length:Int)) (h:H y):∀ q:Nat,q < (xs.set i.toNat y).length→(q:Int) = i→H ((xs.set i.toNat y).getD q default):=fun q hq he=>by
 have:i.toNat = q:=by omega
 rw [this,List.getD_eq_getElem?_getD,List.getElem?_set_self (by simpa using hq)]; exact h
theorem S_rep (H:α→Prop) (n:Nat):∀ q:Nat,q < (List.replicate n (default:α)).length→(q:Int) = -1→H ((List.replicate n (default:α)).getD q default):=fun q hq he=>by omega
theorem flN_done (D:DE α) (Gs:List Nat) (i0:Int) (xs:List α) (h:Gs.length = D.no):flD D Gs xs = flN D (nA (Gs.map some) (Gs.map fun F=>some (.s F i0)) i0) 0 xs:=by
 refine flN_congr D xs 0 fun j i hj _ _=>?_
 have hl:j < Gs.length:=by omega
 unfold nA nF
 simp only [List.getD_eq_getElem?_getD,List.getElem?_map,List.getElem?_eq_getElem hl,Option.map_some,Option.getD_some]
 by_cases hi:(i:Int) = i0
 ·rw [hi]; simp
 ·rw [show ((i:Int) == i0) = false from by simpa using hi]; rfl
theorem dec_i {i:Int} (h:0≤i):(i.toNat:Int) = i:=by omega
theorem ob_ldD (D:DE α) (Fs:List Nat) (xs:List α) (i:Int) (z q off:Nat) (k:0≤i∧i < (xs.length:Int)) (hz:Enc.sz α = z) (hq:q < z) (ho:off = i.toNat * z+q) (d v:SV) (hv:(dcs (fun j=>nF Fs j i) 0 (D.dl (ixD xs i))).getD q d = v) (nx:Nat) (rds:List Nm) :
  resOb (.ok (off < (flD D Fs xs).length) ⟨(flD D Fs xs).getD off d,[],nx,rds⟩) ⟨v,[],nx,rds⟩:=by
 subst hz
 have hlt:i.toNat < xs.length:=by omega
 have hle:(i.toNat+1) * Enc.sz α≤xs.length * Enc.sz α:=Nat.mul_le_mul_right _ hlt
 rw [Nat.add_mul] at hle
 refine ob_ok ?_ ?_ rfl
 ·rw [flD_length]; omega
 ·have:=flN_getD D (nF Fs) xs i.toNat q hlt hq d
  rw [dec_i k.1] at this
  rw [ho,← hv,ixD_pos k.1]; exact this
theorem flD_set (D:DE α) (Fs:List Nat) {N':Nat→Int→Option Nm} (xs:List α) (i:Int) (q:Nat) (k:0≤i∧i < (xs.length:Int)) (vs:List SV) (y:α) (hj:q+vs.length≤Enc.sz α) (hN:∀ j (i':Nat),(i':Int)≠i→nF Fs j i' = N' j i') (hy:splice (dcs (fun j=>nF Fs j i) 0 (D.dl (ixD xs i))) q vs = dcs (fun j=>N' j i) 0 (D.dl y)) :
  splice (flD D Fs xs) (i.toNat * Enc.sz α+q) vs = flN D N' 0 (xs.set i.toNat y):=by
 refine flN_splice D y vs q xs 0 i.toNat (by omega) hj (fun j i' hi=>hN j i' (by omega)) ?_
 rw [Nat.zero_add,dec_i k.1]
 rw [ixD_pos k.1] at hy
 exact hy
theorem ob_stD (D:DE α) (Fs:List Nat) (xs:List α) (i:Int) (z q off:Nat) (k:0≤i∧i < (xs.length:Int)) (hz:Enc.sz α = z) (vs:List SV) (y:α) (hj:q+vs.length≤z) (ho:off = i.toNat * z+q) (hy:splice (dcs (fun j=>nF Fs j i) 0 (D.dl (ixD xs i))) q vs = dcs (fun j=>nF Fs j i) 0 (D.dl y)) (kk:Nat) (nx e t:Nat) (hs:szT P t = some vs.length) (h1:vs.all oneS = true) :
  resOb (.ok (szT P t = some vs.length∧vs.all oneS = true∧off+vs.length≤(flD D Fs xs).length) ⟨.any,[(Nm.t kk,.row e (splice (flD D Fs xs) off vs))],nx,[Nm.t kk]⟩) ⟨.any,[(Nm.t kk,.row e (flD D Fs (xs.set i.toNat y)))],nx,[Nm.t kk]⟩:=by
 subst hz
 have hlt:i.toNat < xs.length:=by omega
 have hle:(i.toNat+1) * Enc.sz α≤xs.length * Enc.sz α:=Nat.mul_le_mul_right _ hlt
 rw [Nat.add_mul] at hle
 refine ob_ok ⟨hs,h1,?_⟩ rfl ?_
 ·rw [flD_length]; omega
 ·rw [ho,flD_set D Fs xs i q k vs y hj (fun _ _ _=>rfl) hy]; rfl
theorem ob_stN (D:DE α) (Fs:List Nat) (src:List (Option Nm)) (xs:List α) (i:Int) (z q off:Nat) (k:0≤i∧i < (xs.length:Int)) (hz:Enc.sz α = z) (vs:List SV) (y:α) (hj:q+vs.length≤z) (ho:off = i.toNat * z+q) (hF:Fs.length = D.no)
  (hy:splice (dcs (fun j=>nF Fs j i) 0 (D.dl (ixD xs i))) q vs = dcs (fun j=>src.getD j none) 0 (D.dl y)) (kk:Nat) (nx e t:Nat) (hs:szT P t = some vs.length) (h1:vs.all oneS = true) :
  resOb (.ok (szT P t = some vs.length∧vs.all oneS = true∧off+vs.length≤(flD D Fs xs).length) ⟨.any,[(Nm.t kk,.row e (splice (flD D Fs xs) off vs))],nx,[Nm.t kk]⟩) ⟨.any,[(Nm.t kk,.row e (flN D (nA (Fs.map some) src i) 0 (xs.set i.toNat y)))],nx,[Nm.t kk]⟩:=by
 subst hz
 have hlt:i.toNat < xs.length:=by omega
 have hle:(i.toNat+1) * Enc.sz α≤xs.length * Enc.sz α:=Nat.mul_le_mul_right _ hlt
 rw [Nat.add_mul] at hle
 refine ob_ok ⟨hs,h1,?_⟩ rfl ?_
 ·rw [flD_length]; omega
 ·rw [ho,flD_set D Fs (N':=fun j i'=>bif i' == i then src.getD j none else nF Fs j i') xs i q k vs y hj (fun j i' hi=>by
   show nF Fs j i' = bif (i':Int) == i then src.getD j none else nF Fs j i'
   rw [show ((i':Int) == i) = false from by simpa using hi]; rfl) (by rw [hy]; simp)]
  congr 3
  refine flN_congr D _ 0 fun j i' hj' _ _=>?_
  unfold nA nF
  simp only [List.getD_eq_getElem?_getD,List.getElem?_map,List.getElem?_eq_getElem (show j < Fs.length by omega),Option.map_some,Option.getD_some]
theorem flN_rep (D:DE α) (zs:List SV) (N:Nat→Int→Option Nm) (h:∀ i:Nat,zs = dcs (fun j=>N j i) 0 (D.dl (default:α))):∀ (n b:Nat),((List.range n).flatMap fun _=>zs) = flN D N b (List.replicate n default)
 | 0,_=>rfl
 | n+1,b=>by
  rw [List.replicate_succ,flN,← flN_rep D zs N h n (b+1),← h b,List.range_succ_eq_map,List.flatMap_cons,List.flatMap_map]
theorem ob_mkN (D:DE α) (n:Int) (e:TypeId) (B:Nat) (hB:P.bytesOf e = B) (zs:List SV) (hzs:zs = dcs (fun _=>none) 0 (D.dl (default:α))) (z:Nat) (hz:zs.length = z) (hpos:0 < z) (k:0≤n∧n≤4611686018427387904∧(B:Int) * n≤140737488355328) (m nx:Nat) :
  resOb (.ok (0≤n∧n≤n∧n≤4611686018427387904∧(P.bytesOf e:Int) * n≤140737488355328∧zs.length = z∧0 < z) ⟨.own nx 0 n.toNat,[(Nm.t nx,.row e ((List.range n.toNat).flatMap fun _=>zs))],nx+1,[]⟩) ⟨.own nx 0 (List.replicate n.toNat (default:α)).length,[(Nm.t nx,.row e (flN D (nA (List.replicate m none) (List.replicate m none) (-1)) 0 (List.replicate n.toNat (default:α))))],nx+1,[]⟩:=by
 subst hB
 refine ob_ok ⟨k.1,Int.le_refl _,k.2.1,k.2.2,hz,hpos⟩ (by rw [List.length_replicate]) ?_
 rw [flN_rep D zs _ (fun i=>?_) n.toNat 0]
 rw [hzs]
 congr 1
 funext j
 rw [nA_ne (by omega),List.getD_eq_getElem?_getD]
 by_cases h:j < m
 ·rw [List.getElem?_replicate,if_pos h]; rfl
 ·rw [List.getElem?_replicate,if_neg h]; rfl
theorem famD_set {D:DE α} {j:Nat} {xs:List α} {i:Int} (k:0≤i∧i < (xs.length:Int)) (y:α):upI (famD D j xs) i (chD D j y) = famD D j (xs.set i.toNat y):=by
 funext q
 unfold upI famD
 by_cases hq:q = i
 ·subst hq
  have:ix (xs.set q.toNat y) q = y:=by unfold ix; rw [List.getD_eq_getElem?_getD,List.getElem?_set_self (by omega)]; rfl
  simp only [ixD_pos k.1,this,beq_self_eq_true,cond_true]
 ·rw [show (q == i) = false from by simpa using hq,cond_false]
  congr 1
  unfold ixD
  by_cases h0:0≤q
  ·simp only [h0,decide_true,cond_true,ix]
   rw [List.getD_eq_getElem?_getD,List.getD_eq_getElem?_getD,List.getElem?_set_ne (by omega)]
  ·simp [h0]
theorem famD_same {D:DE α} {j:Nat} {xs:List α} {i:Int} (k:0≤i∧i < (xs.length:Int)) (y:α) (h:chD D j (ixD xs i) = chD D j y):famD D j xs = famD D j (xs.set i.toNat y):=by
 rw [← famD_set k y]
 funext q
 unfold upI
 by_cases hq:q = i
 ·subst hq; simp only [beq_self_eq_true,cond_true]; exact h
 ·rw [show (q == i) = false from by simpa using hq]; rfl
theorem ob_appM [Enc β] (D:DE α) (j:Nat) (L:List α) (i:Int) (F:Nat) (xs ys:List β) (z B:Nat) (hz:Enc.sz β = z) (news:List SV) (m:Nat) (hn:news = fl ys) (hm:m = ys.length) (s0:Prop) (h0:s0) (e:TypeId) (hB:P.bytesOf e = B) (hpos:0 < B) (hle:(xs++ys).length * B≤140737488355328) (nx:Nat) (rds:List Nm) :
  resOb (.ok (s0∧e = e∧news.length = m * z∧news.all oneS = true∧0+xs.length * z≤(fl xs).length∧0 < P.bytesOf e∧(xs.length+m) * P.bytesOf e≤140737488355328) ⟨.own nx 0 (xs.length+m),[(Nm.t nx,.row e (appCells (fl xs) 0 (xs.length * z)++news)),(Nm.s F 0,.fam (upI (famD D j L) i .dead))],nx+1,Nm.s F 0::rds⟩) ⟨.own nx 0 (xs++ys).length,[(Nm.t nx,.row e (fl (xs++ys))),(Nm.s F 0,.fam (upI (famD D j L) i .dead))],nx+1,Nm.s F 0::rds⟩:=by
 subst hz; subst hn; subst hm; subst hB
 rw [List.length_append] at hle ⊢
 refine ob_ok ⟨h0,rfl,fl_length ys,fl_one ys,by rw [fl_length,Nat.zero_add]; exact Nat.le_refl _,hpos,hle⟩ rfl ?_
 rw [appCells,List.drop_zero,fl_take_all xs _ rfl,fl_append]
end Go.Sx
end

section
namespace Go.Sx
open Go.RowKit
set_option linter.unusedVariables false
variable {α β:Type} [Enc α] {P:Program} {hp hp':Hp} {nx:Nat} {σ:List (Nm×Nm)} {frz:List Nm}
theorem leL_pw:∀ {xs ys:List SV},Pw (leS hp hp' σ frz) xs ys→leL hp hp' σ frz xs ys
 | [],[],_=>by simp only [leL]
 | x::xs,y::ys,h=>by simp only [leL]; exact ⟨h.1,leL_pw h.2⟩
 | [],_::_,h=>h.elim
 | _::_,[],h=>h.elim
theorem leS_plain {s:SV} (h:DL.ok (.p s) = true):leS hp hp' σ frz s s:=by
 cases s <;> simp only [DL.ok] at h <;> first | cases h | skip
 ·simp only [leS]
 ·simp only [leS]; exact ⟨trivial,trivial,stL_clL h⟩
def lokD (hp':Hp) (σ:List (Nm×Nm)) (D:DE α) (xs:List α):Nat→List Nat→List Nat→Prop
 | j,F::Fs,F'::Fs'=>(getN σ (.s F' 0) = some (.s F 0)∧getE hp' (.s F' 0) = .fam (famD D j xs))∧lokD hp' σ D xs (j+1) Fs Fs'
 | j,[],[]=>j = D.no
 | _,_,_=>False
theorem lokD_cons {D:DE α} {xs:List α} {j F F':Nat} {Fs Fs':List Nat}:lokD hp' σ D xs j (F::Fs) (F'::Fs') = ((getN σ (.s F' 0) = some (.s F 0)∧getE hp' (.s F' 0) = .fam (famD D j xs))∧lokD hp' σ D xs (j+1) Fs Fs'):=propext Iff.rfl
theorem lokD_nil {D:DE α} {xs:List α} {j:Nat}:lokD hp' σ D xs j [] [] = (j = D.no):=propext Iff.rfl
theorem lokD_get {D:DE α} {xs:List α}:∀ {Fs Fs':List Nat} {j0:Nat},lokD hp' σ D xs j0 Fs Fs'→j0+Fs.length = D.no∧∀ j,j < Fs.length→getN σ (.s (Fs'.getD j 0) 0) = some (.s (Fs.getD j 0) 0)∧getE hp' (.s (Fs'.getD j 0) 0) = .fam (famD D (j0+j) xs)
 | [],[],j0,h=>⟨h,fun j hj=>by simp at hj⟩
 | F::Fs,F'::Fs',j0,h=>by
  obtain ⟨h1,h2⟩:=lokD_get h.2
  refine ⟨by rw [List.length_cons]; omega,fun j hj=>?_⟩
  cases j with
  | zero=>exact h.1
  | succ j =>
   have:=h2 j (by simpa using hj)
   rwa [show j0+1+j = j0+(j+1) from by omega] at this
 | [],_::_,_,h=>h.elim
 | _::_,[],_,h=>h.elim
theorem getE_listed {k:Nm}:∀ {hp:Hp},getE hp k≠.unborn→∃ p ∈ hp,p.1.key = k.key
 | [],h=>absurd rfl h
 | p::r,h=>by
  by_cases hk:p.1.key = k.key
  ·exact ⟨p,by simp,hk⟩
  ·simp only [getE] at h
   rw [Nm.eqk_no hk,cond_false] at h
   obtain ⟨q,hq,he⟩:=getE_listed h
   exact ⟨q,by simp [hq],he⟩
theorem getE_fam {F:Nat} {g:Int→Chunk} (h:getE hp (.s F 0) = .fam g) (i:Int):getH hp (.s F i) = (Chunk.fam g).at i:=by
 have hx:=getE_listed (hp:=hp) (k:=.s F 0) (by rw [h]; simp)
 rw [getE_get (.s F i) hx,getE_key (show (Nm.s F i).key = (Nm.s F 0).key from rfl),h]
 rfl
theorem getN_s {F F':Nat} (h:getN σ (.s F' 0) = some (.s F 0)) (i:Int):getN σ (.s F' i) = some (.s F i):=by
 rw [getN_sig σ F' i,h]; rfl
theorem famD_live {D:DE α} {j:Nat} (hj:j < D.no) (xs:List α) (i:Int):((Chunk.fam (famD D j xs)).at i).live = true:=by
 rw [at_famD]
 obtain ⟨e,n,cs,_,h⟩:=chD_row D hj (ixD xs i)
 unfold famD; rw [h]; rfl
theorem leL_flD {D:DE α} {Fs Fs':List Nat} {xs:List α} (h:lokD hp' σ D xs 0 Fs Fs'):leL hp hp' σ frz (flD D Fs xs) (flD D Fs' xs) = True:=by
 refine eq_true (leL_pw (flN_pw D xs 0 (fun x _ s hs=>leS_plain (List.all_eq_true.1 (D.ok x) _ hs)) fun i q t hi hq=>?_))
 obtain ⟨h1,h2⟩:=lokD_get h
 have hq':q < D.no:=by rw [← D.num (xs.getD i default)]; exact (List.getElem?_eq_some_iff.1 hq).1
 obtain ⟨h3,h4⟩:=h2 q (by omega)
 rw [Nat.zero_add] at h4
 simp only [nF,nmS,leS]
 exact ⟨getN_s h3 _,trivial,trivial,by rw [getE_fam h4]; exact famD_live hq' xs _⟩
def famLe (hp:Hp) (σ:List (Nm×Nm)) (F':Nat) (g:Int→Chunk):Prop:=match getN σ (.s F' 0) with
 | some k=>getE hp (.s k.base 0) = .fam g
 | none=>False
theorem os_st (D:DE α) (a:α):∀ t ∈ osOf (D.dl a),stL t.2.2 = true:=by
 have gen:∀ l:List DL,l.all DL.ok = true→∀ t ∈ osOf l,stL t.2.2 = true:=by
  intro l
  induction l with
  | nil=>intro _ t ht; cases ht
  | cons a l ih =>
   intro hl t ht
   simp only [List.all_cons,Bool.and_eq_true] at hl
   cases a with
   | p s=>exact ih hl.2 t ht
   | o e n cs =>
    rcases List.mem_cons.1 ht with rfl | ht
    ·exact hl.1
    ·exact ih hl.2 t ht
 exact gen _ (D.ok a)
theorem ren_famD (τ:Nm→Nm) (D:DE α) (j:Nat) (xs:List α) (i:Int):renC τ (famD D j xs i) = famD D j xs i:=by
 unfold famD chD
 cases ho:(osOf (D.dl (ixD xs i)))[j]? with
 | none=>rfl
 | some t =>
  simp only [renC]
  rw [renL_cl (stL_clL (os_st D _ t (List.mem_of_getElem? ho)))]
theorem dcs_ren (τ:Nm→Nm) (N N':Nat→Option Nm) (h:∀ j,(N j).map τ = N' j):∀ (l:List DL) (j:Nat),l.all DL.ok = true→renL τ (dcs N j l) = dcs N' j l
 | [],_,_=>rfl
 | .p s::r,j,hl=>by
  simp only [List.all_cons,Bool.and_eq_true] at hl
  simp only [dcs,renL,dcs_ren τ N N' h r j hl.2]
  congr 1
  refine ren_cl ?_
  have:=hl.1
  cases s <;> simp only [DL.ok] at this <;> first | cases this | skip
  ·rfl
  ·exact stL_clL this
 | .o e n cs::r,j,hl=>by
  simp only [List.all_cons,Bool.and_eq_true] at hl
  simp only [dcs,renL,dcs_ren τ N N' h r (j+1) hl.2,← h j]
  congr 1
  cases N j <;> rfl
theorem renL_app (τ:Nm→Nm) (xs ys:List SV):renL τ (xs++ys) = renL τ xs++renL τ ys:=by rw [renL_map,renL_map,renL_map,List.map_append]
theorem flN_ren (D:DE α) (τ:Nm→Nm) (N N':Nat→Int→Option Nm) (h:∀ j i,(N j i).map τ = N' j i):∀ (xs:List α) (b:Nat),renL τ (flN D N b xs) = flN D N' b xs
 | [],_=>rfl
 | x::xs,b=>by rw [flN,flN,renL_app,flN_ren D τ N N' h xs,dcs_ren τ _ _ (fun j=>h j b) _ _ (D.ok x)]
def bcks (σ:List (Nm×Nm)) (nx:Nat) (Fs:List Nat):List Nat:=Fs.map fun F=>(bck (getN σ) nx (.s F 0)).base
def lenD (Fs:List Nat) (D:DE α):Prop:=Fs.length = D.no
theorem lenD_eq (Fs:List Nat) (D:DE α):lenD Fs D = (Fs.length = D.no):=propext Iff.rfl
theorem renL_flD (D:DE α) (Fs:List Nat) (xs:List α) (hF:lenD Fs D):renL (bck (getN σ) nx) (flD D Fs xs) = flD D (bcks σ nx Fs) xs:=by
 have h1:renL (bck (getN σ) nx) (flD D Fs xs) = flN D (fun j i=>(nF Fs j i).map (bck (getN σ) nx)) 0 xs:=flN_ren D _ _ _ (fun j i=>rfl) xs 0
 rw [h1]
 refine flN_congr D xs 0 fun j i hj _ _=>?_
 have hl:j < Fs.length:=by have:Fs.length = D.no:=hF; omega
 simp only [nF,Option.map_some,bcks,List.getD_eq_getElem?_getD,List.getElem?_map,List.getElem?_eq_getElem hl,Option.getD_some]
 rw [bck_s (getN_sig σ)]
def frzD (hp:Hp) (frz:List Nm) (D:DE α) (xs:List α):Nat→List Nat→Prop
 | j,F::Fs=>(memN frz (.s F 0) = true∧getE hp (.s F 0) = .fam (famD D j xs))∧frzD hp frz D xs (j+1) Fs
 | j,[]=>j = D.no
theorem frzD_cons {D:DE α} {xs:List α} {j F:Nat} {Fs:List Nat}:frzD hp frz D xs j (F::Fs) = ((memN frz (.s F 0) = true∧getE hp (.s F 0) = .fam (famD D j xs))∧frzD hp frz D xs (j+1) Fs):=propext Iff.rfl
theorem frzD_nil {D:DE α} {xs:List α} {j:Nat}:frzD hp frz D xs j [] = (j = D.no):=propext Iff.rfl
def rowAt (c:Chunk) (cs:List SV):Prop:=match c with
 | .row _ cs'=>cs' = cs
 | _=>False
theorem getE_cons (d:Nm) (x:Chunk) (r:Hp) (t:Nm):getE ((d,x)::r) t = bif d.eqk t then x else getE r t:=rfl
theorem getE_nil (t:Nm):getE [] t = .unborn:=rfl
theorem bcks_cons (σ:List (Nm×Nm)) (nx F:Nat) (Fs:List Nat):bcks σ nx (F::Fs) = (bck (getN σ) nx (.s F 0)).base::bcks σ nx Fs:=rfl
theorem bcks_nil (σ:List (Nm×Nm)) (nx:Nat):bcks σ nx [] = []:=rfl
theorem at_dead (i:Int):Chunk.dead.at i = .dead:=rfl
attribute [push_cast] lokD_cons lokD_nil leL_flD ren_famD frzD_cons frzD_nil getE_cons getE_nil bcks_cons bcks_nil at_dead renL_flD lenD_eq
end Go.Sx
end

section
namespace Go.Sx
open Go.RowKit
set_option linter.unusedVariables false
variable {α:Type} [Enc α] {P:Program} {hp:Hp} {nx:Nat} {fr:Fr} {ops:Array Oper}
theorem run_eqS {d:Bool} {l:List Oper} {acc:List Nms} {K:Fr→Hp→Nat→Prop} (F:Nat) (g g':Int→Chunk) (e:g = g') (h:getE hp (.s F 0) = .fam g) (k:RunAt P d ops l fr ((.s F 0,.fam g')::hp) nx acc K):RunAt P d ops l fr hp nx acc K:=by
 subst e
 refine run_eqG (.s F 0,.fam g) (fun q hq=>?_) k
 cases q with
 | t a=>simp [Nm.key] at hq
 | s G i =>
  simp only [Nm.key_s,Nm.s.injEq,and_true] at hq
  subst hq
  exact getE_fam h i
def famG (hp:Hp) (F:Nat):Int→Chunk:=fun j=>getH hp (.s F j)
theorem updE_s (F:Nat) (i:Int) (c:Chunk) (hp:Hp):updE (.s F i) c hp = (.s F 0,.fam (upI (famG hp F) i c)):=rfl
theorem famG_t (k:Nat) (c:Chunk) (r:Hp) (F:Nat):famG ((.t k,c)::r) F = famG r F:=rfl
theorem famG_D (D:DE α) (j:Nat) (xs:List α) (G:Nat) (z:Int) (r:Hp) (F:Nat):famG ((.s G z,.fam (famD D j xs))::r) F = bif G == F then famD D j xs else famG r F:=by
 funext q
 simp only [famG,getH,Nm.eqk]
 cases G == F with
 | true=>simp only [cond_true,Chunk.mem]; exact at_famD D j xs q
 | false=>rfl
theorem famG_U (D:DE α) (j:Nat) (xs:List α) (i:Int) (G:Nat) (z:Int) (r:Hp) (F:Nat):famG ((.s G z,.fam (upI (famD D j xs) i .dead))::r) F = bif G == F then upI (famD D j xs) i .dead else famG r F:=by
 funext q
 simp only [famG,getH,Nm.eqk]
 cases G == F with
 | true =>
  simp only [cond_true,Chunk.mem]
  by_cases hq:q = i
  ·subst hq; simp [Chunk.at,upI]
  ·have h:upI (famD D j xs) i .dead q = famD D j xs q:=by unfold upI; rw [show (q == i) = false from by simpa using hq]; rfl
   rw [h]; exact chD_at D j (ixD xs q) _ q h
 | false=>rfl
theorem upI_upI (g:Int→Chunk) (i:Int) (c c':Chunk):upI (upI g i c) i c' = upI g i c':=by
 funext q
 unfold upI
 cases q == i <;> rfl
theorem wid_fl (xs:List α):xs.length = 0→fl xs = []:=fun h=>by rw [List.eq_nil_of_length_eq_zero h]; rfl
theorem ixD_nil (i:Int):ixD ([]:List α) i = default:=by
 unfold ixD
 cases decide (0≤i) <;> rfl
theorem flD_nil (D:DE α) (Fs:List Nat):flD D Fs [] = []:=rfl
def cellsL (xs:List α):List SV:=fl xs
theorem cellsL_nil:cellsL ([]:List α) = []:=rfl
theorem cellsL_cons (x:α) (xs:List α):cellsL (x::xs) = Enc.cells x++cellsL xs:=rfl
theorem leS_frz0 {hp hp':Hp} {σ:List (Nm×Nm)} {frz:List Nm} {k:Nm} (h:memN frz k = true∧rowIs (getH hp k) []):leS hp hp' σ frz (.own k 0 0) (.sl 0 []) = True:=by
 obtain ⟨h2,h3⟩:=h
 refine eq_true ?_
 simp only [leS]
 refine ⟨trivial,memN_mem h2,?_⟩
 cases hk:getH hp k with
 | row e cs =>
  rw [hk] at h3
  simp only [rowIs] at h3
  subst h3
  exact ⟨e,[],0,rfl,fun _=>rfl,.inl ⟨rfl,rfl⟩⟩
 | _=>rw [hk] at h3; exact h3.elim
theorem renS_cond (τ:Nm→Nm) (b:Bool) (x y:SV):renS τ (bif b then x else y) = bif b then renS τ x else renS τ y:=by cases b <;> rfl
theorem leS_cond {hp hp':Hp} {σ:List (Nm×Nm)} {frz:List Nm} {b:Bool} {x y x' y':SV} (h:leS hp hp' σ frz x x'∧leS hp hp' σ frz y y'):leS hp hp' σ frz (bif b then x else y) (bif b then x' else y') = True:=by
 refine eq_true ?_
 cases b with
 | true=>exact h.1
 | false=>exact h.2
theorem frArgs_cons (i:Nat) (x:SV) (xs:List SV):frArgs i (x::xs) = (i,x)::frArgs (i+1) xs:=rfl
theorem frArgs_nil (i:Nat):frArgs i [] = []:=rfl
attribute [push_cast] leS_frz0 renS_cond leS_cond frArgs_cons frArgs_nil
attribute [push_cast] cellsL_nil cellsL_cons
attribute [push_cast] updE_s famG_t famG_D famG_U upI_upI implies_true flD_nil
def BornL (hp:Hp):List Nm→Prop
 | []=>True
 | k::ks=>bornB (getH hp k) = true∧BornL hp ks
theorem BornL.all {hp:Hp}:∀ {ks:List Nm},BornL hp ks→ks.all (fun k=>bornB (getH hp k)) = true
 | [],_=>rfl
 | k::ks,h=>by rw [List.all_cons,h.1,h.2.all]; rfl
theorem born_fam {hp:Hp} {F:Nat} (g:Int→Chunk) (h:getE hp (.s F 0) = .fam g):bornB (getH hp (.s F 0)) = true:=by
 rw [getE_fam h]
 cases hc:(Chunk.fam g).at 0 with
 | unborn=>exact absurd hc (at_born _ _)
 | _=>rfl
theorem run_opGb {P:Program} {fr:Fr} {hp:Hp} {nx:Nat} {ops:Array Oper} {d:Bool} {l:List Oper} {acc:List Nms} {K:Fr→Hp→Nat→Prop} (dst:Option Tmp) (r:Res) (e:Eff) (u:Hp) (q:Nat) (r2 r2e:List Nm) (hc:(headOp P ops fr l).map (fun o=>(o.dst,opS P true fr hp nx o.type o.op,semOk o.op)) = some (dst,r,true)) (hob:resOb r e) (g:Ghost P e.nx q r2 (e.upd++hp) u)
  (hk:(gkeys e.nx q r2 u,Nat.ble nx e.nx,r2.all (fun k=>k.key == k),e.upd.all (fun p=>Nat.blt p.1.base e.nx),r2.all (fun k=>(e.upd.any fun p=>p.1.key == k) || r2e.any fun j=>j == k)) = (true,true,true,true,true)) (hb:BornL hp r2e)
  (h:RunAt P d ops (l.drop 1) (putF dst e.val fr) (u++e.upd++hp) (bif d then e.nx+q+1 else e.nx+q) (acc++[⟨(u++e.upd).map (·.1.key),e.rds++r2e,nx,e.nx+q⟩]) K):RunAt P d ops l fr hp nx acc K:=by
 refine run_opG dst r e u q r2 r2e hc hob g ?_ h
 simp only [Prod.mk.injEq] at hk ⊢
 obtain ⟨k1,k2,k3,k4,k5⟩:=hk
 exact ⟨k1,k2,k3,k4,k5,hb.all⟩
end Go.Sx
end

section
namespace Go.Sx
open Go.RowKit
set_option linter.unusedVariables false
set_option linter.unusedSimpArgs false
variable {P:Program}
end Go.Sx
end

section
namespace Go.Sx
open Go.RowKit
set_option linter.unusedVariables false
set_option linter.unusedSimpArgs false
variable {P:Program} {fr:Fr} {hp:Hp} {nx:Nat}
theorem run_nilAny {P:Program} {op:BinOp} {t e:TypeId} (hu:P.underlying t = some (.slice e)) (a:Option Addr) (n cap:Nat) (ho:isEq op = true) (w:World) :
  (binOp op t (.slice a n cap) (.slice none 0 0)).run P w = .ok (.bool (bif isNeg op then !a.isNone else a.isNone)) w:=by
 have h0:∀ D,(Op.equalIn (D+1) t (.slice a n cap) (.slice none 0 0)).run P w = .ok a.isNone w:=fun D=>by
  cases a <;> simp [Op.equalIn,run_underlying hu]
 have h:(Op.equal t (.slice a n cap) (.slice none 0 0)).run P w = .ok a.isNone w:=h0 9999
 cases op <;> simp [isEq] at ho
 ·simp only [binOp,Sem.run_bind,h]; cases a <;> rfl
 ·simp only [binOp,Sem.run_bind,h]; cases a <;> rfl
theorem sem_nil {o:Oper} {op:BinOp} {t u e:TypeId} {x:Operand} {r:Bool} {rds:List Nm} (ho:o.op = .binOp op t x (.const (.slice none 0 0)) u) (he:isEq op = true) (hu:P.underlying t = some (.slice e))
  (hx:(∃ k off n,evS true fr x = .own k off n∧0 < n∧(getH hp k).live = true∧rds = [k.key]∧r = isNeg op)∨(∃ n cs,evS true fr x = .sl n cs∧0 < n∧rds = []∧r = isNeg op)∨(evS true fr x = .v (.slice none 0 0)∧rds = []∧r = !isNeg op)) :
  SemW P o fr hp nx (EqEff ⟨.v (.bool r),[],nx,rds⟩):=by
 refine semW_of ⟨Nat.le_refl _,fun p hp1=>by cases hp1⟩ ?_
 intro X ids w fr' hp' a hP hH hf hev hrd
 subst hP
 have hxd:=ev_den hf (g:=true) rfl x
 rw [hev x (by rw [ho]; simp [Op.operands])] at hxd
 obtain ⟨ad,n,cap,hv,hr⟩:∃ ad n cap,a.eval x = .slice ad n cap∧(bif isNeg op then !ad.isNone else ad.isNone) = r:=by
  rcases hx with ⟨k,off,n,h1,h2,h3,h4,h5⟩ | ⟨n,cs,h1,h2,h3,h4⟩ | ⟨h1,h2,h3⟩
  ·rw [h1] at hxd
   have hl:(getH hp' k).live = true:=by rw [hrd k (by rw [h4]; exact List.mem_cons_self ..)]; exact h3
   obtain ⟨b,o',cap,hid,hv⟩:=den_own_pos hxd hl h2
   exact ⟨_,_,_,hv,by rw [h5]; cases isNeg op <;> rfl⟩
  ·rw [h1] at hxd
   generalize hgen:a.eval x = y at hxd
   cases hxd with
   | sl0 hc=>omega
   | sl b o cap c hb hn hcap hc hx=>exact ⟨_,_,_,rfl,by rw [h4]; cases isNeg op <;> rfl⟩
  ·rw [h1] at hxd
   have hv:=den_v hxd
   exact ⟨_,_,_,hv,by rw [h3]; cases isNeg op <;> rfl⟩
 refine ⟨.bool r,w,ids,.inl ?_,hH.toHeapC,Ext.refl _ _ _ _,.v⟩
 unfold execOp
 rw [ho]
 simp only [Sem.run_bind]
 rw [hv,show a.eval (.const (.slice none 0 0)) = .slice none 0 0 from rfl,eqGuard_plain (by simp) (by simp)]
 simp only [Result.andThen_ok,run_nilAny hu _ _ _ he,Sem.run_pure,hr]
theorem sem_cap0 {o:Oper} {t e:TypeId} {x:Operand} (ho:o.op = .call ⟨.builtin .cap,#[x],#[t]⟩) (hu:P.underlying t = some (.slice e)) (hx:evS true fr x = .v (.slice none 0 0)) :
  SemW P o fr hp nx (EqEff ⟨.v (.int .i64 0),[],nx,[]⟩):=by
 refine semW_of ⟨Nat.le_refl _,fun p hp1=>by cases hp1⟩ ?_
 intro X ids w fr' hp' a hP hH hf hev hrd
 subst hP
 have hxd:=ev_den hf (g:=true) rfl x
 rw [hev x (by rw [ho]; simp [Op.operands,Call.operands]),hx] at hxd
 have hv:=den_v hxd
 refine ⟨.int .i64 0,w,ids,.inl ?_,hH.toHeapC,Ext.refl _ _ _ _,.v⟩
 unfold execOp
 rw [ho]
 simp only [resolve,Sem.run_bind,Sem.run_pure,Result.andThen_ok,invoke,builtin]
 simp [Builtin.cap_,hv,run_underlying hu,goInt]
theorem zeroCells_eq (cs:Array Value) (n:Nat) (h:0 < cs.size):∀ (i:Nat) (x:SV),((List.range n).flatMap fun _=>cs.toList.map SV.v)[i]? = some x→x = .v ((Builtin.zeroCells cs n).getD i undef)∧i < (Builtin.zeroCells cs n).size:=fun i x hj=>by
 have hlt:i < n * cs.size:=by
  have:=(List.getElem?_eq_some_iff.1 hj).1
  rw [length_flatMap_const] at this; simpa using this
 rw [getElem?_flatMap_const _ _ _ (by simpa using hlt)] at hj
 simp only [List.length_map,Array.length_toList,List.getElem?_map] at hj
 have hm:=Nat.mod_lt i h
 rw [Array.getElem?_toList,Array.getElem?_eq_getElem hm] at hj
 simp only [Option.map_some,Option.some.injEq] at hj
 subst hj
 have hsz:i < (Builtin.zeroCells cs n).size:=by simpa [Builtin.zeroCells] using hlt
 refine ⟨?_,hsz⟩
 rw [Array.getD_eq_getD_getElem?,Array.getElem?_eq_getElem hsz]
 simp [Builtin.zeroCells,getElem!_pos cs (i % cs.size) hm]
theorem sem_app0 {o:Oper} {t tn e:TypeId} {x y:Operand} {kn kq:IntKind} {z:Nat} {zs:List SV} {n:Int} (ho:o.op = .call ⟨.builtin .append,#[x,y],#[t,tn]⟩) (hst:sliceT P t = some (e,z)) (htn:P.underlying tn = some (.int kn)) (hx:evS true fr x = .v (.slice none 0 0)) (hy:evS true fr y = .v (.int kq n))
  (hz:zeroT P e = some zs) (h0:0 < n) (hzl:zs.length = z) (hpos:0 < z) (hb0:0 < P.bytesOf e) (hb:n.toNat * P.bytesOf e≤140737488355328) :
  SemW P o fr hp nx (EqEff ⟨.own nx 0 n.toNat,[(Nm.t nx,.row e ((List.range n.toNat).flatMap fun _=>zs))],nx+1,[]⟩):=by
 refine semW_of ⟨Nat.le_succ _,fun p hp1=>by rw [List.mem_singleton.1 hp1]; exact .inl ⟨Nat.le_refl _,Nat.lt_succ_self _⟩⟩ ?_
 intro X ids w fr' hp' a hP hH hf hev hrd
 subst hP
 have hxd:=ev_den hf (g:=true) rfl x
 rw [hev x (by rw [ho]; simp [Op.operands,Call.operands]),hx] at hxd
 have hv:=den_v hxd
 have hyd:=ev_den hf (g:=true) rfl y
 rw [hev y (by rw [ho]; simp [Op.operands,Call.operands]),hy] at hyd
 have hw:=den_v hyd
 obtain ⟨i,hu,hi,rfl⟩:=sliceT_some hst
 obtain ⟨i',zv,hi',hzv,rfl⟩:=zeroT_some hz
 rw [hi] at hi'; cases hi'
 have hsz:zv.cells.size = i.size:=by simpa using hzl
 have hby:X.P.bytesOf e = i.bytes:=by simp [Program.bytesOf,hi]
 rw [hby] at hb hb0
 have hk:(n.toNat:Int) = n:=by omega
 have hnn:n.toNat≤n.toNat * i.bytes:=Nat.le_mul_of_pos_right _ hb0
 have hrun:=Lib.run_append_grow_zeros (P:=X.P) w t tn o.type e i zv kq kn hu htn hi hzv none 0 0 [] (by simp [Builtin.firstCells]) n.toNat (by omega) hpos (by omega) (by omega) (by omega) (by rw [Nat.zero_add]; exact growslice_fits (by omega) hb)
 rw [hk] at hrun
 simp only [Nat.zero_add] at hrun
 obtain ⟨d1c,d2⟩:=hH.toHeapC.drew
 have d1:HeapX X hp' nx ids w.drew:=⟨d1c,hH.fresh,hH.m_le⟩
 have hcap:n.toNat≤grownCap w n.toNat 0 e:=by have:=grownCap_ge w n.toNat 0 e; simpa using this
 have hcm:grownCap w n.toNat 0 e≤maxLen:=by have:=grownCap_le_maxLen w n.toNat 0 e (by unfold maxLen; omega); simpa using this
 have hz0:∀ q,(Builtin.zeroCells zv.cells q).size = q * i.size:=fun q=>by rw [size_zeroCells,hsz]
 have hasz:((([]:List Value).toArray)++Builtin.zeroCells zv.cells n.toNat++Builtin.zeroCells zv.cells (grownCap w n.toNat 0 e - n.toNat)).size = grownCap w n.toNat 0 e * i.size:=by
  rw [Array.size_append,Array.size_append,hz0,hz0,List.size_toArray,List.length_nil,Nat.zero_add,← Nat.add_mul]; congr 1; omega
 obtain ⟨a1,a2⟩:=heap_alloc d1 (e:=e) (cs:=(List.range n.toNat).flatMap fun _=>zv.cells.toList.map SV.v) (arr:=([]:List Value).toArray++Builtin.zeroCells zv.cells n.toNat++Builtin.zeroCells zv.cells (grownCap w n.toNat 0 e - n.toNat)) (by
   rw [hasz,length_flatMap_const,List.length_map,Array.length_toList,hsz]; exact Nat.mul_le_mul_right _ hcap) (fun j v hj=>by
   obtain ⟨h1,h2⟩:=zeroCells_eq zv.cells n.toNat (by omega) j v hj
   have e1:(([]:List Value).toArray++Builtin.zeroCells zv.cells n.toNat++Builtin.zeroCells zv.cells (grownCap w n.toNat 0 e - n.toNat)).getD j undef = (Builtin.zeroCells zv.cells n.toNat).getD j undef:=by
    simp [Array.getD_eq_getD_getElem?,Array.getElem?_append,h2]
   rw [h1,e1]
   exact .v)
 refine ⟨.slice (some ⟨w.heap.size,0,none⟩) n.toNat (grownCap w n.toNat 0 e),_,_,.inl ?_,a1,Ext_trans' d2 a2,.own _ _ ?_ ?_⟩
 ·unfold execOp
  rw [ho]
  simp only [resolve,Sem.run_bind,Sem.run_pure,Result.andThen_ok,invoke,builtin,List.map_toArray,List.map_cons,List.map_nil,hv,hw]
  rw [hrun]
  rfl
 ·rw [List.singleton_append,getH_upd,upd_same]; rfl
 ·refine ⟨hcap,hcm,fun e' cs' hc'=>?_,.inr ⟨w.heap.size,0,e,(List.range n.toNat).flatMap fun _=>zv.cells.toList.map SV.v,_,?_,upd_same _ _ _,rfl,heap_alloc_new' w.drew _,?_⟩⟩
  ·rw [List.singleton_append,getH_upd,upd_same] at hc'
   cases hc'
   rw [show X.P.cellsOf e = i.size from by simp [Program.cellsOf,hi],length_flatMap_const,List.length_map,Array.length_toList,hsz,Nat.zero_add]
   exact Nat.mul_le_mul_right _ hcap
  ·rw [List.singleton_append,getH_upd,upd_same]
  ·rw [hasz,show X.P.cellsOf e = i.size from by simp [Program.cellsOf,hi]]; omega
def opX (P:Program) (fr:Fr) (hp:Hp) (nx:Nat) (o:Op):Option Eff:=match o with
 | .binOp op t x y _=>match y with
  | .const (.slice none 0 0)=>bif isEq op then match P.underlying t with
   | some (.slice _)=>match evS true fr x with
    | .own k _ n=>bif Nat.blt 0 n && (getH hp k).live then some ⟨.v (.bool (isNeg op)),[],nx,[k.key]⟩ else none
    | .sl n _=>bif Nat.blt 0 n then some ⟨.v (.bool (isNeg op)),[],nx,[]⟩ else none
    | .v (.slice none 0 0)=>some ⟨.v (.bool (!isNeg op)),[],nx,[]⟩
    | _=>none
   | _=>none
   else none
  | _=>none
 | .buildSlice t 0 ⟨[]⟩=>match sliceT P t with
  | some (e,_)=>some ⟨.own nx 0 0,[(Nm.t nx,.row e [])],nx+1,[]⟩
  | none=>none
 | .call c=>match c with
  | ⟨.builtin .cap,⟨[x]⟩,⟨[t]⟩⟩=>match P.underlying t,evS true fr x with
   | some (.slice _),.v (.slice none 0 0)=>some ⟨.v (.int .i64 0),[],nx,[]⟩
   | _,_=>none
  | ⟨.builtin .append,⟨[x,y]⟩,⟨[t,tn]⟩⟩=>match sliceT P t,P.underlying tn,evS true fr x,evS true fr y with
   | some (e,z),some (.int _),.v (.slice none 0 0),.v (.int _ n)=>match zeroT P e with
    | some zs=>bif decide (0 < n) && (zs.length == z && (Nat.blt 0 z && (Nat.blt 0 (P.bytesOf e) && Nat.ble (n.toNat * P.bytesOf e) 140737488355328))) then some ⟨.own nx 0 n.toNat,[(Nm.t nx,.row e ((List.range n.toNat).flatMap fun _=>zs))],nx+1,[]⟩ else none
    | none=>none
   | _,_,_,_=>none
  | _=>none
 | _=>none
theorem opX_ok {o:Oper} {e:Eff} (h:opX P fr hp nx o.op = some e):nx≤e.nx∧SemW P o fr hp nx (EqEff e):=by
 unfold opX at h
 split at h
 ·rename_i op t x y u ho
  split at h
  ·rw [Bool.cond_eq_ite] at h
   split at h
   ·rename_i he
    split at h
    ·rename_i el hu
     split at h
     ·rename_i k off n hx
      rw [Bool.cond_eq_ite] at h
      split at h
      ·rename_i hb
       simp only [Bool.and_eq_true,Nat.blt_eq] at hb
       cases h
       exact ⟨Nat.le_refl _,sem_nil ho he hu (.inl ⟨k,off,n,hx,hb.1,hb.2,rfl,rfl⟩)⟩
      ·cases h
     ·rename_i n cs hx
      rw [Bool.cond_eq_ite] at h
      split at h
      ·rename_i hb
       rw [Nat.blt_eq] at hb
       cases h
       exact ⟨Nat.le_refl _,sem_nil ho he hu (.inr (.inl ⟨n,cs,hx,hb,rfl,rfl⟩))⟩
      ·cases h
     ·rename_i hx
      cases h
      exact ⟨Nat.le_refl _,sem_nil ho he hu (.inr (.inr ⟨hx,rfl,rfl⟩))⟩
     ·cases h
    ·cases h
   ·cases h
  ·cases h
 ·rename_i t ho
  split at h
  ·rename_i e1 z hst
   cases h
   exact ⟨Nat.le_succ _,sem_mk0 ho hst⟩
  ·cases h
 ·rename_i c ho
  split at h
  ·rename_i x t
   split at h
   ·rename_i hu hx
    cases h
    exact ⟨Nat.le_refl _,sem_cap0 ho hu hx⟩
   ·cases h
  ·rename_i x y t tn
   split at h
   ·rename_i el z kn kq n h1 h2 h3 h4
    split at h
    ·rename_i zs hz
     rw [Bool.cond_eq_ite] at h
     split at h
     ·rename_i hb
      simp only [Bool.and_eq_true,decide_eq_true_eq,beq_iff_eq,Nat.blt_eq] at hb
      obtain ⟨b1,b2,b3,b4,b5⟩:=hb
      cases h
      exact ⟨Nat.le_succ _,sem_app0 ho h1 h2 h3 h4 hz b1 b2 b3 b4 (Nat.le_of_ble_eq_true b5)⟩
     ·cases h
    ·cases h
   ·cases h
  ·cases h
 ·cases h
end Go.Sx
end

section
namespace Go.Sx
open Go.RowKit
set_option linter.unusedVariables false
set_option linter.unusedSimpArgs false
variable {P:Program} {hp hin:Hp} {nx:Nat}
mutual
def wkV (τ:Nm→Option Nm):SV→SV
 | .any=>.any
 | .v x=>.v x
 | .agg xs=>.agg (wkL τ xs)
 | .tup xs=>.tup (wkL τ xs)
 | .sl n xs=>bif clL xs then .sl n xs else .any
 | .own k o n=>match τ k with
  | some j=>.own j o n
  | none=>.any
 | .ptr k o=>match τ k with
  | some j=>.ptr j o
  | none=>.any
 | .iptr xs o=>bif clL xs then .iptr xs o else .any
 | .mp k=>match τ k with
  | some j=>.mp j
  | none=>.any
 | .it k=>match τ k with
  | some j=>.it j
  | none=>.any
 | .clo f xs=>.clo f (wkL τ xs)
 | .ifc t x=>.ifc t (wkV τ x)
 | .er a b c d=>.er a b c d
 | .mth t x=>.mth t (wkV τ x)
 | .asl _ _ _=>.any
 | .bp k e n=>match τ k with
  | some j=>.bp j e n
  | none=>.any
 | .gd g x=>bif x.cl then .gd g x else .any
def wkL (τ:Nm→Option Nm):List SV→List SV
 | []=>[]
 | x::xs=>wkV τ x::wkL τ xs
end
def wkM (τ:Nm→Option Nm):List (Value×SV)→List (Value×SV)
 | []=>[]
 | p::r=>(p.1,wkV τ p.2)::wkM τ r
def wkC (τ:Nm→Option Nm):Chunk→Chunk
 | .row e cs=>.row e (wkL τ cs)
 | .map es=>.map (wkM τ es)
 | .obj s p=>.obj s p
 | _=>.dead
theorem wkC_live {τ:Nm→Option Nm} {c:Chunk} (h:c.live = true):(wkC τ c).live = true:=by cases c <;> first | rfl | cases h
def TauOk (τ:Nm→Option Nm) (σ:List (Nm×Nm)) (hin:Hp):Prop:=∀ k j,τ k = some j→getN σ j = some k∧(getH hin j).live = true
mutual
theorem wk_le {τ:Nm→Option Nm} {σ:List (Nm×Nm)} (H:TauOk τ σ hin):∀ s:SV,leS hp hin σ [] s (wkV τ s)
 | .any=>by simp only [wkV,leS]
 | .v x=>by simp only [wkV,leS]
 | .agg xs=>by simp only [wkV,leS]; exact .inr (wkL_le H xs)
 | .tup xs=>by simp only [wkV,leS]; exact wkL_le H xs
 | .sl n xs=>by
  simp only [wkV]
  cases h:clL xs with
  | true=>simp only [cond_true,leS]; exact ⟨trivial,trivial,h⟩
  | false=>simp only [cond_false,leS]
 | .own k o n=>by
  simp only [wkV]
  cases h:τ k with
  | none=>simp only [leS]
  | some j=>simp only [leS]; exact ⟨(H k j h).1,trivial,trivial,(H k j h).2⟩
 | .ptr k o=>by
  simp only [wkV]
  cases h:τ k with
  | none=>simp only [leS]
  | some j=>simp only [leS]; exact ⟨(H k j h).1,trivial,(H k j h).2⟩
 | .iptr xs o=>by
  simp only [wkV]
  cases h:clL xs with
  | true=>simp only [cond_true,leS]; exact ⟨trivial,trivial,h⟩
  | false=>simp only [cond_false,leS]
 | .mp k=>by
  simp only [wkV]
  cases h:τ k with
  | none=>simp only [leS]
  | some j=>simp only [leS]; exact H k j h
 | .it k=>by
  simp only [wkV]
  cases h:τ k with
  | none=>simp only [leS]
  | some j=>simp only [leS]; exact H k j h
 | .clo f xs=>by simp only [wkV,leS]; exact ⟨trivial,wkL_le H xs⟩
 | .ifc t x=>by simp only [wkV,leS]; exact ⟨trivial,wk_le H x⟩
 | .er _ _ _ _=>by simp only [wkV,leS]; exact ⟨trivial,trivial,trivial,trivial⟩
 | .mth t x=>by simp only [wkV,leS]; exact ⟨trivial,wk_le H x⟩
 | .asl _ _ _=>by simp only [wkV,leS]
 | .bp k e n=>by
  simp only [wkV]
  cases h:τ k with
  | none=>simp only [leS]
  | some j=>simp only [leS]; exact ⟨(H k j h).1,trivial,trivial,(H k j h).2⟩
 | .gd g x=>by
  simp only [wkV]
  cases h:x.cl with
  | true=>simp only [cond_true,leS]; exact ⟨trivial,h⟩
  | false=>simp only [cond_false,leS]
theorem wkL_le {τ:Nm→Option Nm} {σ:List (Nm×Nm)} (H:TauOk τ σ hin):∀ xs:List SV,leL hp hin σ [] xs (wkL τ xs)
 | []=>by simp only [wkL,leL]
 | x::xs=>by simp only [wkL,leL]; exact ⟨wk_le H x,wkL_le H xs⟩
end
mutual
theorem wk_st {τ:Nm→Option Nm}:∀ s:SV,(wkV τ s).st = true→wkV τ s = s
 | .any,h=>rfl
 | .v x,h=>rfl
 | .agg xs,h=>by simp only [wkV]; rw [wkL_st xs (by simpa only [wkV,SV.st] using h)]
 | .tup xs,h=>by simp only [wkV]; rw [wkL_st xs (by simpa only [wkV,SV.st] using h)]
 | .sl n xs,h=>by
  simp only [wkV] at h ⊢
  cases hc:clL xs with
  | true=>rfl
  | false=>rw [hc] at h; cases h
 | .own k o n,h=>by
  simp only [wkV] at h ⊢
  cases hc:τ k with
  | none=>rw [hc] at h; cases h
  | some j=>rw [hc] at h; cases h
 | .ptr k o,h=>by
  simp only [wkV] at h ⊢
  cases hc:τ k with
  | none=>rw [hc] at h; cases h
  | some j=>rw [hc] at h; cases h
 | .iptr xs o,h=>by
  simp only [wkV] at h ⊢
  cases hc:clL xs with
  | true=>rfl
  | false=>rw [hc] at h; cases h
 | .mp k,h=>by
  simp only [wkV] at h ⊢
  cases hc:τ k with
  | none=>rw [hc] at h; cases h
  | some j=>rw [hc] at h; cases h
 | .it k,h=>by
  simp only [wkV] at h ⊢
  cases hc:τ k with
  | none=>rw [hc] at h; cases h
  | some j=>rw [hc] at h; cases h
 | .clo f xs,h=>by simp only [wkV]; rw [wkL_st xs (by simpa only [wkV,SV.st] using h)]
 | .asl _ _ _,h=>by simp only [wkV,SV.st] at h; cases h
 | .bp k o n,h=>by
  simp only [wkV] at h ⊢
  cases hc:τ k with
  | none=>rw [hc] at h; cases h
  | some j=>rw [hc] at h; cases h
 | .mth t x,h=>by simp only [wkV]; rw [wk_st x (by simpa only [wkV,SV.st] using h)]
 | .ifc t x,h=>by simp only [wkV]; rw [wk_st x (by simpa only [wkV,SV.st] using h)]
 | .er _ _ _ _,h=>rfl
 | .gd g x,h=>by
  simp only [wkV] at h ⊢
  cases hc:x.cl with
  | true=>rfl
  | false=>rw [hc] at h; cases h
theorem wkL_st {τ:Nm→Option Nm}:∀ xs:List SV,stL (wkL τ xs) = true→wkL τ xs = xs
 | [],_=>rfl
 | x::xs,h=>by
  simp only [wkL,stL,Bool.and_eq_true] at h
  simp only [wkL]; rw [wk_st x h.1,wkL_st xs h.2]
end
theorem wkM_st {τ:Nm→Option Nm}:∀ es:List (Value×SV),stM (wkM τ es) = true→wkM τ es = es
 | [],_=>rfl
 | p::r,h=>by
  simp only [wkM,stM,Bool.and_eq_true] at h
  simp only [wkM]; rw [wk_st p.2 h.1,wkM_st r h.2]
theorem wkM_le {τ:Nm→Option Nm} {σ:List (Nm×Nm)} (H:TauOk τ σ hin):∀ es:List (Value×SV),leM hp hin σ [] es (wkM τ es)
 | []=>by simp only [wkM,leM]
 | p::r=>by simp only [wkM,leM]; exact ⟨trivial,wk_le H p.2,wkM_le H r⟩
theorem wkC_le {τ:Nm→Option Nm} {σ:List (Nm×Nm)} (H:TauOk τ σ hin) {j k:Nm} (hj:getN σ j = some k):leC1 hp hin σ [] j (wkC τ (getH hp k)):=by
 cases hc:getH hp k with
 | row e cs =>
  simp only [wkC,leC1]; rw [hj]; simp only; rw [hc]
  exact ⟨rfl,.inr (.inl (wkL_le H cs))⟩
 | map es =>
  simp only [wkC,leC1]; rw [hj]; simp only; rw [hc]
  simp only
  cases hs:stM (wkM τ es) with
  | true=>simp only [cond_true]; exact (wkM_st es hs).symm
  | false=>simp only [cond_false]; exact wkM_le H es
 | obj s p=>simp only [wkC,leC1]; rw [hj]; exact hc
 | _=>simp only [wkC,leC1]
mutual
def namesV:SV→List Nm
 | .agg xs=>namesVL xs
 | .tup xs=>namesVL xs
 | .own k _ _=>[k]
 | .ptr k _=>[k]
 | .mp k=>[k]
 | .it k=>[k]
 | .clo _ xs=>namesVL xs
 | .ifc _ x=>namesV x
 | .er _ _ _ _=>[]
 | .mth _ x=>namesV x
 | .asl k _ _=>[k]
 | .bp k _ _=>[k]
 | _=>[]
def namesVL:List SV→List Nm
 | []=>[]
 | x::xs=>namesV x++namesVL xs
end
def namesM:List (Value×SV)→List Nm
 | []=>[]
 | p::r=>namesV p.2++namesM r
def namesCh:Chunk→List Nm
 | .row _ cs=>namesVL cs
 | .map es=>namesM es
 | _=>[]
def closeN (hp:Hp):Nat→List Nm→List Nm→List Nm
 | 0,_,R=>R
 | _+1,[],R=>R
 | n+1,k::todo,R=>bif (R.any fun j=>j == k) || !(getH hp k).live then closeN hp n todo R else closeN hp n (namesCh (getH hp k)++todo) (R++[k])
def numN:Nat→List Nm→List (Nm×Nm)
 | _,[]=>[]
 | b,k::r=>(.t b,k)::numN (b+1) r
def selfN:List Nm→List (Nm×Nm)
 | []=>[]
 | k::r=>(k,k)::selfN r
def oldN:List (Nm×Nm)→Nm→Option Nm
 | [],_=>none
 | p::r,k=>bif p.2 == k then some p.1 else oldN r k
def isT:Nm→Bool
 | .t _=>true
 | _=>false
def tauN (pr:List (Nm×Nm)) (hp:Hp) (k:Nm):Option Nm:=match oldN pr k with
 | some j=>bif (getH hp k).live && (isT j && getN pr j == some k) then some j else none
 | none=>none
def hinN (τ:Nm→Option Nm) (hp:Hp):List (Nm×Nm)→Hp
 | []=>[]
 | p::r=>(p.1,wkC τ (getH hp p.2))::hinN τ hp r
def prOk (pr:List (Nm×Nm)):Bool:=pr.all fun p=>isT p.1 && getN pr p.1 == some p.2
theorem hin_get (τ:Nm→Option Nm) (hp:Hp) {j k:Nm} (hj:isT j = true):∀ {pr:List (Nm×Nm)},getN pr j = some k→getH (hinN τ hp pr) j = wkC τ (getH hp k)
 | [],h=>by cases h
 | p::r,h=>by
  obtain ⟨a,b⟩:=p
  simp only [hinN,getH]
  rw [getN_cons] at h
  cases j with
  | s F i=>cases hj
  | t x =>
   cases he:a.eqk (.t x) with
   | true=>rw [he] at h; simp only [cond_true,Option.some.injEq,Nm.to] at h; subst h; simp only [cond_true,Chunk.mem]
   | false=>rw [he] at h; simp only [cond_false] at h ⊢; exact hin_get τ hp hj h
theorem tau_ok (pr:List (Nm×Nm)) (hp:Hp):TauOk (tauN pr hp) pr (hinN (tauN pr hp) hp pr):=fun k j h=>by
 unfold tauN at h
 split at h
 ·rename_i j' hj'
  rw [Bool.cond_eq_ite] at h
  split at h
  ·rename_i hb
   simp only [Bool.and_eq_true,beq_iff_eq] at hb
   obtain ⟨hl,ht,hn⟩:=hb
   cases h
   refine ⟨hn,?_⟩
   rw [hin_get _ hp ht hn]; exact wkC_live hl
  ·cases h
 ·cases h
theorem hin_le {τ:Nm→Option Nm} {σ:List (Nm×Nm)} (H:TauOk τ σ hin):∀ pr:List (Nm×Nm),(∀ p ∈ pr,isT p.1 = true∧getN σ p.1 = some p.2)→leH hp hin σ [] (hinN τ hp pr)
 | [],_=>trivial
 | p::r,h=>by
  refine ⟨?_,hin_le H r fun q hq=>h q (by simp [hq])⟩
  obtain ⟨h1,h2⟩:=h p (by simp)
  have:=wkC_le (hp:=hp) H h2
  cases hp1:p.1 with
  | s F i=>rw [hp1] at h1; cases h1
  | t a=>rw [hp1] at this; exact this
theorem hin_le' {pr:List (Nm×Nm)} {hp:Hp} (h:prOk pr = true):leH hp (hinN (tauN pr hp) hp pr) pr [] (hinN (tauN pr hp) hp pr):=hin_le (tau_ok pr hp) pr fun p hp=>by
 have:=List.all_eq_true.1 h p hp
 simpa only [Bool.and_eq_true,beq_iff_eq] using this
def srcC (P:Program) (tx:TypeId) (z:Nat) (y:SV) (hp:Hp):Option (Nat×List SV×Bool):=match y with
 | .own k off m=>match getH hp k with
  | .row _ cs=>some (m,appCells cs off (m * z),Nat.ble (off+m * z) cs.length)
  | _=>none
 | .sl m cs=>some (m,cs,cs.length == m * z)
 | .v (.slice none 0 0)=>some (0,[],true)
 | .v (.string s)=>some (s.size,byteS s,z == 1)
 | _=>none
def appC (P:Program) (t tx:TypeId) (x y:SV) (hp:Hp):Bool:=match sliceT P t with
 | some (e,z)=>match srcC P tx z y hp with
  | some (m,news,b)=>match x with
   | .own k off n=>match getH hp k with
    | .row e' cs=>b && (e' == e && (news.length == m * z && (news.all oneS && (Nat.ble (off+n * z) cs.length && (Nat.blt 0 (P.bytesOf e) && Nat.ble ((n+m) * P.bytesOf e) 140737488355328)))))
    | _=>false
   | .v (.slice none 0 0)=>b && (news.length == m * z && (news.all oneS && (Nat.blt 0 (P.bytesOf e) && Nat.ble (m * P.bytesOf e) 140737488355328)))
   | _=>false
  | none=>false
 | none=>false
theorem src_side {tx:TypeId} {z:Nat} {y:SV} {f:Nat→List SV→List Nm→Prop→Res} {s:Prop} {e:Eff} (h:srcS P tx z y hp f = .ok s e) {m:Nat} {news:List SV} {b:Bool} (hb:srcC P tx z y hp = some (m,news,b)) :
 ∃rds s0,f m news rds s0 = .ok s e∧(b = true→s0):=by
 unfold srcS at h
 unfold srcC at hb
 split at h
 ·split at h
  ·obtain ⟨t,cs,hk,hf⟩:=rowS_ok h
   simp only [hk,Option.some.injEq,Prod.mk.injEq] at hb
   obtain ⟨rfl,rfl,rfl⟩:=hb
   exact ⟨_,_,hf,fun hb=>Nat.le_of_ble_eq_true hb⟩
  ·cases h
 ·split at h
  ·simp only [Option.some.injEq,Prod.mk.injEq] at hb
   obtain ⟨rfl,rfl,rfl⟩:=hb
   exact ⟨_,_,h,fun hb=>by simpa using hb⟩
  ·cases h
 ·split at h
  ·simp only [Option.some.injEq,Prod.mk.injEq] at hb
   obtain ⟨rfl,rfl,rfl⟩:=hb
   exact ⟨_,_,h,fun _=>trivial⟩
  ·cases h
 ·split at h
  ·simp only [Option.some.injEq,Prod.mk.injEq] at hb
   obtain ⟨rfl,rfl,rfl⟩:=hb
   exact ⟨_,_,h,fun hb=>by simpa using hb⟩
  ·cases h
 ·cases h
theorem app_side {t tx:TypeId} {x y:SV} {s:Prop} {e:Eff} (h:appendS P t tx x y hp nx = .ok s e) (hb:appC P t tx x y hp = true):s:=by
 unfold appendS at h
 unfold appC at hb
 cases ht:sliceT P t with
 | none=>rw [ht] at h; cases h
 | some ez =>
  obtain ⟨e1,z⟩:=ez
  rw [ht] at h hb
  simp only at h hb
  cases hs:srcC P tx z y hp with
  | none=>rw [hs] at hb; cases hb
  | some q =>
   obtain ⟨m,news,b⟩:=q
   rw [hs] at hb
   simp only at hb
   obtain ⟨rds,s0,hf,h0⟩:=src_side h hs
   split at hf
   ·obtain ⟨t',cs,hk,hf2⟩:=rowS_ok hf
    simp only [hk] at hb
    cases hf2
    simp only [Bool.and_eq_true,beq_iff_eq,Nat.blt_eq] at hb
    obtain ⟨b1,b2,b3,b4,b5,b6,b7⟩:=hb
    exact ⟨h0 b1,b2,b3,b4,Nat.le_of_ble_eq_true b5,b6,Nat.le_of_ble_eq_true b7⟩
   ·cases hf
    simp only [Bool.and_eq_true,beq_iff_eq,Nat.blt_eq] at hb
    obtain ⟨b1,b3,b4,b6,b7⟩:=hb
    exact ⟨h0 b1,b3,b4,b6,Nat.le_of_ble_eq_true b7⟩
   ·cases hf
def sliceC (P:Program) (t:TypeId) (x:SV) (lo hi:Option SV) (hp:Hp):Bool:=match x with
 | .own k off n=>match boundS lo 0,boundS hi n,sliceT P t with
  | some l,some h,some (_,z)=>match getH hp k with
   | .row e _=>P.cellsOf e == z && (decide (0≤l) && (decide (l≤h) && decide (h≤n)))
   | _=>false
  | _,_,_=>false
 | .sl n _=>match boundS lo 0,boundS hi n with
  | some l,some h=>decide (0≤l) && (decide (l≤h) && decide (h≤n))
  | _,_=>false
 | .v (.slice none 0 0)=>match boundS lo 0,boundS hi 0 with
  | some l,some h=>l == 0 && h == 0
  | _,_=>false
 | .v (.string s)=>match boundS lo 0,boundS hi s.size with
  | some l,some h=>decide (0≤l) && (decide (l≤h) && decide (h≤s.size))
  | _,_=>false
 | .ptr _ _=>true
 | _=>false
theorem slice_side {t:TypeId} {x:SV} {lo hi:Option SV} {s:Prop} {e:Eff} (h:sliceS P t x lo hi hp nx = .ok s e) (hb:sliceC P t x lo hi hp = true):s:=by
 unfold sliceS at h
 unfold sliceC at hb
 split at h
 ·split at h
  ·rename_i h1 h2 h3
   simp only [h1,h2,h3] at hb
   obtain ⟨t',cs,hk,hf2⟩:=rowS_ok h
   simp only [hk,Bool.and_eq_true,beq_iff_eq,decide_eq_true_eq] at hb
   cases hf2
   exact hb
  ·cases h
 ·split at h
  ·rename_i h1 h2 h3
   simp only [h1,h2,Bool.and_eq_true,decide_eq_true_eq] at hb
   cases h
   exact hb
  ·cases h
 ·split at h
  ·rename_i h1 h2 h3
   simp only [h1,h2,Bool.and_eq_true,beq_iff_eq] at hb
   cases h
   exact hb
  ·cases h
 ·split at h
  ·rename_i h1 h2 h3
   simp only [h1,h2,Bool.and_eq_true,decide_eq_true_eq] at hb
   cases h
   exact hb
  ·cases h
 ·split at h
  ·rw [Bool.cond_eq_ite] at h
   split at h
   ·have:=(liveS_ok h).2; cases this; trivial
   ·cases h
  ·cases h
 ·first | (cases hb; done) | (simp at hb; done)
 ·cases h
def mapKC (P:Program) (t:TypeId) (x key:SV) (hp:Hp):Bool:=match x,key,mapT P t with
 | .mp k,.v kv,some (d,_)=>match getH hp k with
  | .map es=>keyOk d kv && es.all (fun p=>keyAlike kv p.1)
  | _=>false
 | .mp k,.agg cs,some _=>match plainA cs,mapA P t with
  | some vs,some (_,l,_)=>match getH hp k with
   | .map es=>leavesV l vs && es.all (fun p=>aggFits l p.1)
   | _=>false
  | _,_=>false
 | _,_,_=>false
theorem look_side {t:TypeId} {x key:SV} {ok:Bool} {s:Prop} {e:Eff} (h:lookupS P t x key ok hp nx = .ok s e) (hb:mapKC P t x key hp = true):s:=by
 unfold lookupS at h
 unfold mapKC at hb
 split at h
 ·rename_i h3
  simp only [h3] at hb
  split at h
  ·obtain ⟨es,hk,hf⟩:=mapC_ok h
   simp only [hk,Bool.and_eq_true] at hb
   cases hf
   exact hb
  ·cases h
 ·rename_i h3
  simp only [h3] at hb
  split at h
  ·rename_i h1 h2
   simp only [h1,h2] at hb
   split at h
   ·obtain ⟨es,hk,hf⟩:=mapC_ok h
    simp only [hk,Bool.and_eq_true] at hb
    cases hf
    exact hb
   ·cases h
  ·cases h
 ·cases h
theorem mupd_side {t:TypeId} {x key v:SV} {s:Prop} {e:Eff} (h:mapUpdS P t x key v hp nx = .ok s e) (hb:mapKC P t x key hp = true):s:=by
 unfold mapUpdS at h
 unfold mapKC at hb
 split at h
 ·rename_i h3
  simp only [h3] at hb
  obtain ⟨es,hk,hf⟩:=mapC_ok h
  simp only [hk,Bool.and_eq_true] at hb
  cases hf
  exact hb
 ·rename_i h3
  simp only [h3] at hb
  split at h
  ·rename_i h1 h2
   simp only [h1,h2] at hb
   obtain ⟨es,hk,hf⟩:=mapC_ok h
   simp only [hk,Bool.and_eq_true] at hb
   cases hf
   exact hb
  ·cases h
 ·cases h
def mkC (P:Program) (t:TypeId) (l c:SV):Bool:=match l,c,sliceT P t with
 | .v (.int _ n),.v (.int _ m),some (e,z)=>match zeroT P e with
  | some zs=>decide (0≤n) && (decide (n≤m) && (decide (m≤4611686018427387904) && (decide ((P.bytesOf e:Int) * m≤140737488355328) && (zs.length == z && Nat.blt 0 z))))
  | none=>false
 | _,_,_=>false
theorem mk_side {t:TypeId} {l c:SV} {s:Prop} {e:Eff} (h:makeSliceS P t l c nx = .ok s e) (hb:mkC P t l c = true):s:=by
 unfold makeSliceS at h
 unfold mkC at hb
 split at h
 ·rename_i h3
  simp only [h3] at hb
  split at h
  ·rename_i h4
   simp only [h4,Bool.and_eq_true,decide_eq_true_eq,beq_iff_eq,Nat.blt_eq] at hb
   cases h
   exact hb
  ·cases h
 ·cases h
def convC (P:Program) (s d:TypeId) (x:SV) (hp:Hp):Bool:=match x with
 | .v (.int _ _)=>true
 | .v (.string b)=>(match P.underlying d with
  | some .string=>true
  | _=>Nat.ble (runesOf b).length 70368744177664)
 | x=>match srcC P s 1 x hp with
  | some (m,news,b)=>b && news.length == m * 1
  | none=>false
theorem conv_side {t d:TypeId} {x:SV} {s:Prop} {e:Eff} (h:convS P t d x hp nx = .ok s e) (hb:convC P t d x hp = true):s:=by
 unfold convS at h
 split at h
 ·split at h
  ·exact pureR_s h
  ·exact pureR_s h
  ·cases h
 ·split at h
  ·exact pureR_s h
  ·rename_i hn h1 h2
   split at h
   ·rename_i h3 h4
    cases h
    simp only [convC,h2] at hb
    exact Nat.le_of_ble_eq_true hb
   ·cases h
  ·cases h
 ·rename_i hx1 hx2
  have hc:convC P t d x hp = match srcC P t 1 x hp with
   | some (m,news,b)=>b && news.length == m * 1
   | none=>false:=by
   unfold convC
   split
   ·exact absurd rfl (hx1 _ _)
   ·exact absurd rfl (hx2 _)
   ·rfl
  rw [hc] at hb
  cases hs:srcC P t 1 x hp with
  | none=>rw [hs] at hb; cases hb
  | some q =>
   obtain ⟨m,news,b⟩:=q
   rw [hs] at hb
   simp only [Bool.and_eq_true,beq_iff_eq] at hb
   unfold strS' at h
   split at h
   ·split at h
    ·obtain ⟨rds,s0,hf,h0⟩:=src_side h hs
     simp only [Bool.cond_eq_ite] at hf
     split at hf
     ·cases hf; exact ⟨h0 hb.1,hb.2⟩
     ·cases hf
    ·obtain ⟨rds,s0,hf,h0⟩:=src_side h hs
     simp only [Bool.cond_eq_ite] at hf
     split at hf
     ·cases hf; exact ⟨h0 hb.1,hb.2⟩
     ·cases hf
    ·cases h
   ·cases h
def sideC (P:Program) (fr:Fr) (hp:Hp) (o:Op):Bool:=match o with
 | .convert s d x=>convC P s d (evS true fr x) hp
 | .slice t x lo hi none=>sliceC P t (tabS P (evS true fr x)) (lo.map (evS true fr)) (hi.map (evS true fr)) hp
 | .lookup t x i _=>mapKC P t (evS true fr x) (evS true fr i) hp
 | .mapUpdate t m k _=>mapKC P t (evS true fr m) (evS true fr k) hp
 | .insert t m k _=>mapKC P t (evS true fr m) (evS true fr k) hp
 | .makeSlice t l c=>mkC P t (evS true fr l) (evS true fr c)
 | .range _ _=>true
 | .next _ _=>true
 | .slice t x none (some hh) (some m)=>(match evS true fr hh,evS true fr m with
  | .v (.int _ a),.v (.int _ b)=>a == 0 && b == 0
  | _,_=>false)
 | .binOp op t x y q=>(match evS true fr x,evS true fr y with
  | .v (.string a),.v (.string b)=>Nat.ble (a.size+b.size) 9223372036854775807
  | _,_=>sideOk P true fr hp (.binOp op t x y q))
 | .index t x i=>(match evS true fr x,evS true fr i with
  | .v (.string s),.v (.int _ n)=>decide (0≤n) && decide (n < s.size)
  | _,_=>sideOk P true fr hp (.index t x i))
 | .call c=>(match c.callee with
  | .builtin .append=>(match c.args.toList,c.argTypes.toList with
   | [x,y],[t,tx]=>appC P t tx (evS true fr x) (evS true fr y) hp
   | _,_=>false)
  | _=>sideOk P true fr hp (.call c))
 | o=>sideOk P true fr hp o
theorem sideC_ok {fr:Fr} {ty:TypeId} {o:Op} {s:Prop} {e:Eff} (h:opS P true fr hp nx ty o = .ok s e) (hb:sideC P fr hp o = true):s:=by
 unfold sideC at hb
 split at hb
 ·exact conv_side (by simpa only [opS] using h) hb
 ·exact slice_side (by simpa only [opS] using h) hb
 ·exact look_side (by simpa only [opS] using h) hb
 ·exact mupd_side (by simpa only [opS] using h) hb
 ·exact mupd_side (by simpa only [opS] using h) hb
 ·exact mk_side (by simpa only [opS] using h) hb
 ·simp only [opS] at h
  unfold rangeS at h
  split at h
  ·split at h
   ·cases h; trivial
   ·cases h
  ·cases h
 ·simp only [opS] at h
  unfold nextS at h
  rw [Bool.cond_eq_ite] at h
  split at h
  ·split at h
   ·obtain ⟨t,pos,hk,hf⟩:=itC_ok h
    simp only [Bool.cond_eq_ite] at hf
    split at hf <;> (cases hf; trivial)
   ·cases h
  ·cases h
 ·simp only [opS] at h
  unfold slice0S at h
  split at hb
  ·rename_i h1 h2
   simp only [h1,h2] at h
   simp only [Bool.and_eq_true,beq_iff_eq] at hb
   split at h
   ·rename_i h3 h4 h5
    cases h4; cases h5
    split at h
    ·have:=(liveS_ok h).2; cases this; exact hb
    ·cases h; exact hb
    ·cases h; exact hb
    ·cases h
   ·cases h
  ·cases hb
 ·split at hb
  ·rename_i h1 h2
   simp only [opS,binOpS,erNilS,Option.getD_none,h1,h2] at h
   unfold strS at h
   split at h <;> first | exact pureR_s h | (cases h; exact Nat.le_of_ble_eq_true hb) | cases h
  ·exact sideOk_ok h hb
 ·split at hb
  ·rename_i h1 h2
   simp only [opS,indexS,h1,h2] at h
   simp only [Bool.and_eq_true,decide_eq_true_eq] at hb
   split at h
   ·cases h; exact hb
   ·cases h
  ·exact sideOk_ok h hb
 ·split at hb
  ·rename_i hcal
   simp only [opS,hcal] at h
   split at hb
   ·rename_i h1 h2
    simp only [h1,h2] at h
    split at h
    ·rw [Bool.cond_eq_ite] at h
     split at h
     ·exact app_side h hb
     ·cases h
    ·cases h
   ·cases hb
  ·exact sideOk_ok h hb
 ·exact sideOk_ok h hb
def ceCall (call:FuncId→List SV→Hp→Nat→Option (SV×Hp×Nat)) (f:FuncId) (args:List SV) (hp:Hp) (nx:Nat):Option (SV×Hp×Nat×List Nm) :=
 ceCall1 call f args hp nx (numN 0 (closeN hp 100000 (namesVL args) []))
where ceCall1 (call:FuncId→List SV→Hp→Nat→Option (SV×Hp×Nat)) (f:FuncId) (args:List SV) (hp:Hp) (nx:Nat) (pr:List (Nm×Nm)):Option (SV×Hp×Nat×List Nm) :=
 bif prOk pr && (okN 0 pr [] && (okH 0 pr.length pr (hinN (tauN pr hp) hp pr) && okC pr.length (hinN (tauN pr hp) hp pr) pr)) then
  match call f (wkL (tauN pr hp) args) (hinN (tauN pr hp) hp pr) pr.length with
  | some (x,h,n)=>bif wfH h then some (renS (bck (getN pr) nx) x,back (getN pr) nx pr.length h hp,nx+n,passK (getN pr) pr.length) else none
  | none=>none
 else none
def CallOk (P:Program) (call:FuncId→List SV→Hp→Nat→Option (SV×Hp×Nat)):Prop:=∀ f args hin m x h n,call f args hin m = some (x,h,n)→SpecW P f args hin m (fun r h' n'=>r = x∧h' = h∧n' = n)
theorem fam_numT {hp hin:Hp}:∀ {pr:List (Nm×Nm)},(∀ p ∈ pr,isT p.1 = true)→famOk hp hin pr
 | [],_=>trivial
 | p::r,h=>by
  have h1:=h p (by simp)
  refine ⟨?_,fam_numT fun q hq=>h q (by simp [hq])⟩
  cases hp1:p.1 with
  | t a=>trivial
  | s F i=>rw [hp1] at h1; cases h1
theorem ceCall_ok {call:FuncId→List SV→Hp→Nat→Option (SV×Hp×Nat)} (hc:CallOk P call) {d:Bool} {f:FuncId} {args:List SV} {K:SV→Hp→Nat→List Nm→Prop} {v:SV} {u:Hp} {n':Nat} {ks:List Nm} (h:ceCall call f args hp nx = some (v,u,n',ks)) (hk:K v u n' ks):CallW d P f args hp nx K:=by
 unfold ceCall at h
 generalize numN 0 (closeN hp 100000 (namesVL args) []) = pr at h
 unfold ceCall.ceCall1 at h
 rw [Bool.cond_eq_ite] at h
 split at h
 ·rename_i hb
  simp only [Bool.and_eq_true] at hb
  obtain ⟨b1,b2,b3,b4⟩:=hb
  split at h
  ·rename_i x h' n he
   rw [Bool.cond_eq_ite] at h
   split at h
   ·rename_i hw
    cases h
    have spec:=hc _ _ _ _ _ _ _ he
    have hT:∀ p ∈ pr,isT p.1 = true:=fun p hp=>by
     have:=List.all_eq_true.1 b1 p hp
     simp only [Bool.and_eq_true] at this
     exact this.1
    have hok:=handed_ok b4 (fam_numT (hp:=hp) hT)
    obtain ⟨l1,l2⟩:=leL_get (wkL_le (hp:=hp) (tau_ok pr hp) args)
    refine ⟨_,_,pr.length,_,getN pr,[],spec,sub_mk (hin_le' b1) b2,getN_sig pr,fun k hk=>⟨?_,okH_fresh b3 k hk⟩,?_,fun k j hk=>(hok k j hk).2,l1,fun i y z hy hz=>leS_sound (l2 i y z hy hz),⟨x,h',n,rfl,rfl,rfl⟩,fun _=>?_,?_⟩
    ·cases hn:getN pr k with
     | none=>rfl
     | some j=>have:=(hok k j hn).1; omega
    ·simp only [okN,Bool.and_eq_true] at b2
     exact nodupN_inj b2.1.1 b2.1.2
    ·rintro r1 h1 n1 r2 h2 n2 ⟨rfl,rfl,rfl⟩ ⟨rfl,rfl,rfl⟩; exact ⟨rfl,rfl,rfl⟩
    ·rintro res hp' nx' ⟨rfl,rfl,rfl⟩
     exact ⟨hw,.inl rfl,_,Trim.refl _ _ _,by simpa using hk⟩
   ·cases h
  ·cases h
 ·cases h
theorem HSt.killTurn_ext {P:Program} {w0:World} {I0 W0:Nat→Prop} {C:Nm→Chunk} {ids:Ids} {w:World} (h:HSt P w0 I0 W0 C ids w) {k:Nm} {b o:Nat} (hl:(C k).live = true) (hid:ids k = some (b,o)) {w':World}
  (hz:w'.heap.size = w.heap.size) (ho:∀ j,j≠b→w'.heap[j]? = w.heap[j]?) :
  Ext C ids (Im w0 I0 W0 C ids w) w (upd C k .dead) ids (Im w0 I0 W0 (upd C k .dead) ids w') w':=by
 refine ⟨fun d hd=>?_,fun j hj=>?_,fun j hj=>?_⟩
 ·obtain ⟨h1,h2,h3⟩:=hd
  have hdb:d≠b:=fun e=>by subst e; exact h3 k hl o hid
  refine ⟨⟨h1,by omega,fun j hj o'=>?_⟩,ho d hdb⟩
  by_cases hjk:j = k
  ·subst hjk; rw [upd_same] at hj; cases hj
  ·rw [upd_ne _ _ hjk] at hj; exact h3 j hj o'
 ·have hjk:j≠k:=fun e=>by subst e; rw [hj] at hl; cases hl
  rw [upd_ne _ _ hjk]; exact hj
 ·by_cases hjk:j = k
  ·subst hjk; rw [upd_same]; exact .inl rfl
  ·rw [upd_ne _ _ hjk]
   refine .inr ⟨hj,rfl,SameKind.refl hj,fun b' o' hid'=>SameShape.of_eq (ho b' fun e=>?_)⟩
   subst e; exact hjk (h.inj j k b' o' o hj hl hid' hid)
theorem HSt.killTurn {P:Program} {w0:World} {I0 W0:Nat→Prop} {C:Nm→Chunk} {ids:Ids} {w:World} (h:HSt P w0 I0 W0 C ids w) {k:Nm} {b o:Nat} (hl:(C k).live = true) (hid:ids k = some (b,o)) {w':World}
  (hz:w'.heap.size = w.heap.size) (ho:∀ j,j≠b→w'.heap[j]? = w.heap[j]?) (hos:w'.os = w.os) (htape:w'.tape = w.tape) (hout:w'.output = w.output) (hdr:w.drawn≤w'.drawn):HSt P w0 I0 W0 (upd C k .dead) ids w':=by
 have hE:=h.killTurn_ext hl hid hz ho
 have e:∀ j,(upd C k .dead j).live = true→(C j).live = true:=fun j hj=>by
  by_cases hjk:j = k
  ·subst hjk; rw [upd_same] at hj; cases hj
  ·rw [upd_ne _ _ hjk] at hj; exact hj
 refine ⟨fun j=>?_,fun j j' b o1 o2 hj hj' hi hi'=>h.inj j j' b o1 o2 (e j hj) (e j' hj') hi hi',fun j d o' hj hi=>?_,h.im0,fun d hd hW=>?_,hos.trans h.os,⟨htape.trans h.tape.1,h.tape.2.trans (.of hdr)⟩,hout.trans h.output,by rw [hz]; exact h.size⟩
 ·by_cases hjk:j = k
  ·subst hjk; rw [upd_same]; trivial
  ·rw [upd_ne _ _ hjk]
   by_cases hlj:(C j).live = true
   ·exact (h.ch j).mono hE rfl (fun b' o' hid'=>ho b' fun e=>by subst e; exact hjk (h.inj j k b' o' o hlj hl hid' hid))
   ·cases hcj:C j <;> simp_all [Chunk.live,DenC]
 ·have:=h.lt j d o' (e j hj) hi
  exact ⟨by omega,this.2⟩
 ·have hdb:d≠b:=fun e=>by
   subst e
   rcases (h.lt k d o hl hid).2 with hh | hh
   ·exact hW hh
   ·omega
  rw [ho d hdb]; exact h.evol d hd hW
theorem heap_killTurn {X:Cx} {hp:Hp} {ids:Ids} {w:World} (h:HeapC X hp ids w) {k:Nm} {b o:Nat} (hl:(getH hp k).live = true) (hid:ids k = some (b,o)) {w':World}
  (hz:w'.heap.size = w.heap.size) (ho:∀ j,j≠b→w'.heap[j]? = w.heap[j]?) (hos:w'.os = w.os) (htape:w'.tape = w.tape) (hout:w'.output = w.output) (hdr:w.drawn≤w'.drawn) :
  HeapC X ([updE k .dead hp]++hp) ids w'∧ExtX X hp ids w ([updE k .dead hp]++hp) ids w':=by
 have hC:getH ([updE k .dead hp]++hp) = upd (getH hp) k .dead:=getH_put (live_born hl) (by simp)
 have hE:=h.st.killTurn_ext hl hid hz ho
 refine ⟨⟨by rw [hC]; exact h.st.killTurn hl hid hz ho hos htape hout hdr,fun j hj h0 hjl=>?_,fun j hj hv=>by rw [hC] at hv; exact nov_upd h.nov (fun e=>by cases e) j hj hv⟩,by simp only [ExtX,hC]; exact hE⟩
 have hlo:(getH hp j).live = true:=by
  rw [hC] at hjl
  by_cases hjk:j = k
  ·subst hjk; rw [upd_same] at hjl; cases hjl
  ·rwa [upd_ne _ _ hjk] at hjl
 rw [hC] at hjl ⊢
 exact (h.kept j hj h0 hlo).step hE hlo hjl
theorem freeze_other (w:World) (a:Addr) (n:Nat):(w.freeze a n).heap.size = w.heap.size∧(∀ j,j≠a.block→(w.freeze a n).heap[j]? = w.heap[j]?)∧(w.freeze a n).os = w.os∧(w.freeze a n).tape = w.tape∧(w.freeze a n).output = w.output∧w.drawn≤(w.freeze a n).drawn:=by
 unfold World.freeze
 split
 ·exact ⟨rfl,fun _ _=>rfl,rfl,rfl,rfl,Nat.le_refl _⟩
 ·exact ⟨by simp,fun j hj=>by simp only [Array.getElem?_modify]; rw [if_neg (fun e=>hj e.symm)],rfl,rfl,rfl,Nat.le_refl _⟩
theorem lies_bytes {P:Program} {e:TypeId} (hc:P.cellsOf e = 1) (count off n:Nat) (hn:off+n≤count):liesAt P P.depth e count off e n = true:=by
 have hd:P.depth = (2 * (P.types.size+Made.depth)+1)+1:=rfl
 rw [hd]
 simp only [liesAt,Bool.or_eq_true]
 left
 rw [hd]
 simp [Go.rowAt,hc,hn,sameLayout,Nat.mod_one]
theorem run_ustr {P:Program} (w:World) (pt it ty e:TypeId) (hp:P.underlying pt = some (.pointer e)) (hc:P.cellsOf e = 1) (g off cells:Nat) (hsh:w.shape? g = some (e,cells)) (l:List UInt8) (h0:l≠[]) (hn:off+l.length≤cells) (h63:l.length≤9223372036854775807)
  (hcell:∀ j x,l[j]? = some x→w.cell? ((⟨g,off,none⟩:Addr).add j) = some (.int .u8 x.toNat)) :
  (Builtin.unsafeString_ #[pt,it] ty #[.pointer (some ⟨g,off,none⟩),.int .i64 l.length]).run P w = .ok (.string ⟨l.toArray⟩) (w.freeze ⟨g,off,none⟩ l.length):=by
 have hl:l.length≠0:=by simpa using h0
 have hlb:=Lib.run_loadBytes (P:=P) w l ⟨g,off,none⟩ .empty hcell
 have hlies:=lies_bytes (P:=P) hc (cells / P.cellsOf e) off l.length (by rw [hc]; simpa using hn)
 have h63':¬ (9223372036854775807:Int) < (l.length:Int):=by omega
 have hdef:Builtin.unsafeString_ #[pt,it] ty #[.pointer (some ⟨g,off,none⟩),.int .i64 l.length] = (do
    let n ← asInt (.int .i64 l.length)
    if n < 0 then runtimePanic (.error "unsafe.String: len out of range")
    if n > IntKind.i64.max then unsupported (.unsafePointer "String: a length above the largest int")
    if n = 0 then pure (.string .empty)
    else if ← variablesAt ⟨g,off,none⟩ (← elemOf pt) n.toNat then do
     let s ← loadBytes ⟨g,off,none⟩ .empty n.toNat
     freeze ⟨g,off,none⟩ n.toNat
     pure (.string s)
    else unsupported (.unsafePointer "String: not so many bytes at ptr")) := rfl
 rw [hdef]
 have hmax:IntKind.i64.max = 9223372036854775807:=rfl
 have hneg:¬ (l.length:Int) < 0:=by omega
 simp [asInt,asIntOf,hmax,h63',hneg,hl,variablesAt,hsh,elemOf,run_underlying hp,hlies,hlb]
def byteOf:SV→UInt8
 | .v (.int _ n)=>n.toNat.toUInt8
 | _=>0
def isByte:SV→Bool
 | .v (.int .u8 n)=>decide (0≤n) && decide (n < 256)
 | _=>false
def selfT (P:Program) (t:TypeId):Bool:=match P.underlying t with
 | some (.struct fs)=>match fs.toList with
  | [f,g]=>match P.underlying f.type,P.underlying g.type with
   | some (.pointer u),some (.slice e)=>u == t && (match P.underlying e with | some (.int .u8)=>true | _=>false)
   | _,_=>false
  | _=>false
 | _=>false
def opB (P:Program) (fr:Fr) (hp:Hp) (nx:Nat) (o:Op):Option Eff:=match o with
 | .alloc t=>bif selfT P t then match zeroT P t with
  | some cs=>some ⟨.bp nx t cs.length,[(Nm.t nx,.row t cs)],nx+1,[]⟩
  | none=>none
  else none
 | .load t x=>match evS true fr x with
  | .bp k _ _=>match loadS P t (.ptr k 0) hp nx,getH hp k with
   | .ok _ e,.row _ cs=>bif takeB P t cs 0 then some e else none
   | _,_=>none
  | _=>none
 | .fieldAddr t x f=>match evS true fr x,fieldT P t f with
  | .bp k _ _,some (o,_,_)=>some ⟨.ptr k (0+o),[],nx,[]⟩
  | _,_=>none
 | .nilCheck x=>match evS true fr x with
  | .bp k e n=>some ⟨.bp k e n,[],nx,[]⟩
  | _=>none
 | .convert s d x=>match evS true fr x,P.underlying s,P.underlying d with
  | .v (.int _ n),some (.int _),some .string=>some ⟨.v (.string (Utf8.encode n)),[],nx,[]⟩
  | _,_,_=>none
 | .call c=>match c.callee,c.args.toList,c.argTypes.toList with
  | .builtin .unsafeSliceData,[x],[_]=>match evS true fr x with
   | .own k off n=>match getH hp k with
    | .row _ _=>bif Nat.blt 0 n then some ⟨.ptr k off,[],nx,[k.key]⟩ else none
    | _=>none
   | _=>none
  | .builtin .unsafeString,[x,y],[t,_]=>match evS true fr x,evS true fr y,P.underlying t with
   | .ptr k off,.v (.int .i64 n),some (.pointer e)=>match getH hp k with
    | .row e' cs=>bif e == e' && (szT P e == some 1 && (decide (0 < n) && (Nat.ble (off+n.toNat) cs.length && (Nat.ble n.toNat 140737488355328 && (appCells cs off n.toNat).all isByte)))) then
      some ⟨.v (.string ⟨((appCells cs off n.toNat).map byteOf).toArray⟩),[updE k .dead hp],nx,[k.key]⟩ else none
    | _=>none
   | _,_,_=>none
  | _,_,_=>none
 | _=>none
theorem opB_sem {fr:Fr} {o:Op} {e:Eff} (h:opB P fr hp nx o = some e):semOk o = true:=by
 cases o <;> first | rfl | (unfold opB at h; cases h)
theorem sound_allocB {X:Cx} {ids:Ids} {w:World} (h:HeapX X hp nx ids w) {t:TypeId} {cs:List SV} (hz:zeroT X.P t = some cs) (old:Value):Sound X hp ids w ((Instr.alloc t true old).run X.P w) ⟨.bp nx t cs.length,[(Nm.t nx,.row t cs)],nx+1,[]⟩:=by
 unfold zeroT at hz
 cases hi:X.P.info? t with
 | none=>rw [hi] at hz; cases hz
 | some i =>
  rw [hi] at hz
  cases hzz:i.zero with
  | none=>simp [hzz] at hz
  | some z =>
   simp [hzz] at hz
   obtain ⟨h1,h2⟩:=heap_alloc h (e:=t) (cs:=cs) (arr:=z.cells) (by rw [← hz]; simp) (fun j x hj=>by
    rw [← hz] at hj
    have:=den_lit (ids:=ids) (w:=w) X.P (getH hp) (Im X.w0 X.I0 X.W0 (getH hp) ids w) (l:=z.cells.toList) j x (by simpa using hj)
    simpa using this)
   refine ⟨_,_,_,?_,h1,h2,.bp w.heap.size z.cells ?_ (upd_same _ _ _) (heap_alloc_new' w _) (by rw [← hz]; simp)⟩
   ·simp [Instr.alloc,zeroValue,typeInfo,hi,hzz,newVar,newRow]
   ·rw [List.singleton_append,getH_upd,upd_same]; rfl
theorem isByte_val {X:Cx} {ids:Ids} {w:World} {s:SV} {x:Value} (h:isByte s = true) (hd:DenX X hp ids w s x):x = .int .u8 (byteOf s).toNat:=by
 unfold isByte at h
 split at h
 ·rename_i n
  simp only [Bool.and_eq_true,decide_eq_true_eq] at h
  obtain rfl:=den_v hd
  simp only [byteOf]
  congr 1
  have:(n.toNat.toUInt8).toNat = n.toNat:=by
   show n.toNat % 256 = n.toNat
   omega
  rw [this]; omega
 ·cases h
theorem opB_ok {fr:Fr} {o:Oper} {e:Eff} (h:opB P fr hp nx o.op = some e):nx≤e.nx∧SemW P o fr hp nx (EqEff e):=by
 unfold opB at h
 split at h
 ·rename_i t ho
  rw [Bool.cond_eq_ite] at h
  split at h
  ·split at h
   ·rename_i cs hz
    cases h
    refine ⟨Nat.le_succ _,semW_of ⟨Nat.le_succ _,fun p hp1=>by rw [List.mem_singleton.1 hp1]; exact .inl ⟨Nat.le_refl _,Nat.lt_succ_self _⟩⟩ ?_⟩
    intro X ids w fr' hp' a hP hH hf hev hrd
    subst hP
    unfold execOp
    rw [ho]
    exact soundN_value (sound_allocB hH hz _)
   ·cases h
  ·cases h
 ·rename_i t x ho
  split at h
  ·rename_i k e1 n1 hx
   split at h
   ·rename_i sd e2 t2 cs hl hk
    rw [Bool.cond_eq_ite] at h
    split at h
    ·rename_i hb
     cases h
     have hs:takeS P t cs 0 [k.key] nx = .ok sd e:=by simpa only [loadS,hk,rowS] using hl
     have hsd:=takeB_ok hs hb
     have hu:e.upd = []∧e.nx = nx∧e.rds = [k.key]:=by
      unfold takeS at hs
      split at hs <;> first | (cases hs; exact ⟨rfl,rfl,rfl⟩) | cases hs
     obtain ⟨u1,u2,u3⟩:=hu
     refine ⟨by omega,semW_of ⟨by omega,fun p hp1=>by rw [u1] at hp1; cases hp1⟩ ?_⟩
     intro X ids w fr' hp' a hP hH hf hev hrd
     subst hP
     have hd:=ev_den hf (g:=true) rfl x
     rw [hev x (by rw [ho]; simp [Op.operands]),hx] at hd
     have hk':getH hp' k = .row t2 cs:=by rw [hrd k (by rw [u3]; exact List.mem_cons_self ..),hk]
     unfold execOp
     rw [ho]
     exact soundN_value (sound_load hH (den_bp_ptr hd) (by simp only [loadS,hk',rowS]; exact hs) hsd)
    ·cases h
   ·cases h
  ·cases h
 ·rename_i t x f ho
  split at h
  ·rename_i k e1 n1 q ty n2 hx hf1
   cases h
   refine ⟨Nat.le_refl _,semW_of ⟨Nat.le_refl _,fun p hp1=>by cases hp1⟩ ?_⟩
   intro X ids w fr' hp' a hP hH hf hev hrd
   subst hP
   have hd:=ev_den hf (g:=true) rfl x
   rw [hev x (by rw [ho]; simp [Op.operands]),hx] at hd
   unfold execOp
   rw [ho]
   exact soundN_value (sound_fieldAddr hH (den_bp_ptr hd) (side:=True) (by simp only [fieldAddrS',hf1]) trivial)
  ·cases h
 ·rename_i x ho
  split at h
  ·rename_i k e1 n1 hx
   cases h
   refine ⟨Nat.le_refl _,semW_of ⟨Nat.le_refl _,fun p hp1=>by cases hp1⟩ ?_⟩
   intro X ids w fr' hp' a hP hH hf hev hrd
   subst hP
   have hd:=ev_den hf (g:=true) rfl x
   rw [hev x (by rw [ho]; simp [Op.operands]),hx] at hd
   obtain ⟨b,o',hv⟩:∃ b o,a.eval x = .pointer (some ⟨b,o,none⟩):=by
    rcases den_ptr' (den_bp_ptr hd) with ⟨_,b,o,h⟩ | ⟨_,b,o,_,h⟩ <;> exact ⟨_,_,h⟩
   unfold execOp
   rw [ho]
   exact ⟨_,w,ids,.inl (by simp only [hv]; rfl),hH.toHeapC,Ext.refl _ _ _ _,by rw [hv] at hd; exact hd⟩
  ·cases h
 ·rename_i s d x ho
  split at h
  ·rename_i k n k' hx h1 h2
   cases h
   refine ⟨Nat.le_refl _,semW_of ⟨Nat.le_refl _,fun p hp1=>by cases hp1⟩ ?_⟩
   intro X ids w fr' hp' a hP hH hf hev hrd
   subst hP
   have hd:=ev_den hf (g:=true) rfl x
   rw [hev x (by rw [ho]; simp [Op.operands]),hx] at hd
   have hv:=den_v hd
   unfold execOp
   rw [ho]
   exact soundN_value (sound_pure hH (by simp [hv,convert,run_underlying h1,run_underlying h2,Conv.intToString]) .v)
  ·cases h
 ·rename_i c ho
  obtain ⟨callee,⟨args⟩,⟨tys⟩⟩:=c
  split at h
  ·rename_i x t h1 h2 h3
   simp only at h1 h2 h3
   subst h1; subst h2; subst h3
   split at h
   ·rename_i k off n hx
    split at h
    ·rename_i et cs hk
     rw [Bool.cond_eq_ite] at h
     split at h
     ·rename_i hb
      rw [Nat.blt_eq] at hb
      cases h
      refine ⟨Nat.le_refl _,semW_of ⟨Nat.le_refl _,fun p hp1=>by cases hp1⟩ ?_⟩
      intro X ids w fr' hp' a hP hH hf hev hrd
      subst hP
      have hd:=ev_den hf (g:=true) rfl x
      rw [hev x (by rw [ho]; simp [Op.operands,Call.operands]),hx] at hd
      have hk':getH hp' k = .row et cs:=by rw [hrd k (List.mem_cons_self ..),hk]
      have hlk:(getH hp' k).live = true:=by rw [hk']; rfl
      obtain ⟨ad,cap,hv,c1,c2,c4,c3⟩:=den_own hd hlk
      rcases c3 with ⟨c3,_⟩ | ⟨b,q,e2,cs2,arr,_,hid,had,hw,hsz⟩
      ·omega
      subst had
      unfold execOp
      rw [ho]
      simp only [resolve,Sem.run_bind,Sem.run_pure,Result.andThen_ok,invoke,builtin]
      simp only [List.map_toArray,List.map_cons,List.map_nil]
      rw [hv,Lib.run_unsafeSliceData_row w _ _ _ _ _ (by omega)]
      exact ⟨_,w,ids,.inl rfl,hH.toHeapC,Ext.refl _ _ _ _,.ptr b q hlk hid⟩
     ·cases h
    ·cases h
   ·cases h
  ·rename_i x y t t2 h1 h2 h3
   simp only at h1 h2 h3
   subst h1; subst h2; subst h3
   split at h
   ·rename_i k off n e1 hx hy hu
    split at h
    ·rename_i e2 cs hk
     rw [Bool.cond_eq_ite] at h
     split at h
     ·rename_i hb
      simp only [Bool.and_eq_true,beq_iff_eq,decide_eq_true_eq] at hb
      obtain ⟨rfl,b2,b3,b4,b5,b6⟩:=hb
      have b4:=Nat.le_of_ble_eq_true b4
      have b5:=Nat.le_of_ble_eq_true b5
      have hlk0:(getH hp k).live = true:=by rw [hk]; rfl
      cases h
      refine ⟨Nat.le_refl _,semW_of ⟨Nat.le_refl _,fun p hp1=>by rw [List.mem_singleton.1 hp1]; exact .inr ⟨by simp [updE_key],k,by simp [updE_key],live_born hlk0⟩⟩ ?_⟩
      intro X ids w fr' hp' a hP hH hf hev hrd
      subst hP
      rw [← updE_local (c:=.dead) hrd (List.mem_cons_self ..)]
      have hdx:=ev_den hf (g:=true) rfl x
      rw [hev x (by rw [ho]; simp [Op.operands,Call.operands]),hx] at hdx
      have hdy:=ev_den hf (g:=true) rfl y
      rw [hev y (by rw [ho]; simp [Op.operands,Call.operands]),hy] at hdy
      have hvy:=den_v hdy
      have hk':getH hp' k = .row e1 cs:=by rw [hrd k (List.mem_cons_self ..),hk]
      have hlk:(getH hp' k).live = true:=by rw [hk']; rfl
      obtain ⟨b,q,hid,hvx⟩:=den_ptr hdx hlk
      have hch:=hH.st.ch k
      rw [hk'] at hch
      simp only [DenC,hid] at hch
      obtain ⟨arr,hw,hsz,hcs⟩:=hch
      have hlen:(appCells cs off n.toNat).length = n.toNat:=by
       simp only [appCells,List.length_take,List.length_drop]; omega
      have hn:(n.toNat:Int) = n:=by omega
      have hrun:=run_ustr (P:=X.P) w t t2 o.type e1 hu (szT_cells b2) b (q+off) arr.size (by simp [World.shape?,hw]) ((appCells cs off n.toNat).map byteOf) (fun h0=>by
       have:=congrArg List.length h0
       simp [hlen] at this; omega) (by rw [List.length_map,hlen]; omega) (by rw [List.length_map,hlen]; omega) (fun j z hj=>by
       rw [List.getElem?_map] at hj
       cases hc:(appCells cs off n.toNat)[j]? with
       | none=>rw [hc] at hj; cases hj
       | some sv =>
        rw [hc] at hj; cases hj
        obtain ⟨hg,hm⟩:=appCells_get hc
        have hby:isByte sv = true:=List.all_eq_true.1 b6 sv (List.mem_of_getElem? hc)
        have hden:=hcs (off+j) sv hm
        have hval:=isByte_val (hp:=hp') hby hden
        have hlt:q+(off+j) < arr.size:=by
         have:=(List.getElem?_eq_some_iff.1 hm).1; omega
        rw [add_mk]
        simp only [World.cell?,hw]
        rw [← Nat.add_assoc] at hval hlt
        rw [Array.getD_eq_getD_getElem?,Array.getElem?_eq_getElem hlt] at hval
        simp only [Option.getD_some] at hval
        rw [show q+off+j = q+off+j from rfl]
        simp [hlt,hval])
      rw [List.length_map,hlen,hn] at hrun
      obtain ⟨f1,f2,f3,f4,f5,f6⟩:=freeze_other w ⟨b,q+off,none⟩ n.toNat
      obtain ⟨g1,g2⟩:=heap_killTurn hH.toHeapC hlk hid (w':=w.freeze ⟨b,q+off,none⟩ n.toNat) f1 f2 f3 f4 f5 f6
      unfold execOp
      rw [ho]
      simp only [resolve,Sem.run_bind,Sem.run_pure,Result.andThen_ok,invoke,builtin]
      simp only [List.map_toArray,List.map_cons,List.map_nil]
      rw [hvx,hvy,hrun]
      exact ⟨_,_,_,.inl rfl,g1,g2,.v⟩
     ·cases h
    ·cases h
   ·cases h
  ·cases h
 ·cases h
def ceOps (P:Program) (call:FuncId→List SV→Hp→Nat→Option (SV×Hp×Nat)) (d:Bool) (ops:Array Oper):List Oper→Fr→Hp→Nat→List Nms→Option (Fr×Hp×Nat×List Nms)
 | [],fr,hp,nx,acc=>some (fr,hp,nx,acc)
 | o::rest,fr,hp,nx,acc=>match doneS ops fr o with
  | none=>none
  | some false=>ceOps P call d ops rest (putF o.dst (skipV P o.op) fr) hp (bif d then nx+1 else nx) (acc++[⟨[],[],nx,nx⟩])
  | some true=>match callOf true fr o.op with
   | some c=>match ceCall call c.1 c.2 hp nx with
    | some (v,u,n',ks)=>ceOps P call d ops rest (putF o.dst v fr) (u++hp) (bif d then n'+1 else n') (acc++[⟨u.map (·.1.key),ks,nx,n'⟩])
    | none=>none
   | none=>match o.guard,opB P fr hp nx o.op with
    | none,some ⟨val,upd,nx',rds⟩=>ceOps P call d ops rest (putF o.dst val fr) (upd++hp) (bif d then nx'+1 else nx') (acc++[⟨upd.map (·.1.key),rds,nx,nx'⟩])
    | _,_=>match opS P true fr hp nx o.type o.op with
    | .bad=>match o.guard,opX P fr hp nx o.op with
     | none,some ⟨val,upd,nx',rds⟩=>ceOps P call d ops rest (putF o.dst val fr) (upd++hp) (bif d then nx'+1 else nx') (acc++[⟨upd.map (·.1.key),rds,nx,nx'⟩])
     | _,_=>none
    | .ok _ ⟨val,upd,nx',rds⟩=>bif sideC P fr hp o.op && !quietBad P o nx ⟨val,upd,nx',rds⟩ then
      ceOps P call d ops rest (putF o.dst (wrapV P o val) fr) (upd++hp) (bif d then nx'+1 else nx') (acc++[⟨upd.map (·.1.key),rds,nx,nx'⟩])
     else match o.guard,opX P fr hp nx o.op with
     | none,some ⟨val,upd,nx',rds⟩=>ceOps P call d ops rest (putF o.dst val fr) (upd++hp) (bif d then nx'+1 else nx') (acc++[⟨upd.map (·.1.key),rds,nx,nx'⟩])
     | _,_=>none
theorem stepW_call {dt:Bool} {ops:Array Oper} {o:Oper} {fr:Fr} {c:FuncId×List SV} {K2:SV→Hp→Nat→List Nm→Prop} (hd:doneS ops fr o = some true) (hc:callOf true fr o.op = some c) (hk:CallW dt P c.1 c.2 hp nx K2):stepW dt P ops o fr hp nx K2:=by
 have hq:quietP P o.op = false:=by unfold quietP; rw [quietS_call hc]; rfl
 unfold stepW
 unfold doneS at hd
 cases hg:o.guard with
 | none=>simp only; unfold coreW; rw [hc]; exact hk
 | some jw =>
  rw [hg] at hd
  simp only at hd ⊢
  rw [hd]
  simp only [hq,cond_false]
  refine ⟨fun _=>?_,(fun he=>by cases he)⟩
  unfold coreW; rw [hc]; exact hk
theorem stepW_b {dt:Bool} {ops:Array Oper} {o:Oper} {fr:Fr} {K:SV→Hp→Nat→List Nm→Prop} {v:SV} {u:Hp} {n:Nat} {r:List Nm} (hg:o.guard = none) (hc:callOf true fr o.op = none) (hx:opB P fr hp nx o.op = some ⟨v,u,n,r⟩) (hk:K v u n r):stepW dt P ops o fr hp nx K:=by
 obtain ⟨h1,h2⟩:=opB_ok hx
 unfold stepW
 rw [hg]
 simp only
 unfold coreW
 rw [hc]
 refine .inl ⟨rfl,opB_sem hx,?_⟩
 cases dt with
 | false=>exact h2.mono rfl fun v u n r he=>by obtain ⟨rfl,rfl,rfl,rfl⟩:=he; exact hk
 | true=>exact ⟨_,h1,hk,h2⟩
theorem opX_sem {fr:Fr} {o:Op} {e:Eff} (h:opX P fr hp nx o = some e):semOk o = true:=by
 cases o <;> first | rfl | (unfold opX at h; cases h)
theorem stepW_x {dt:Bool} {ops:Array Oper} {o:Oper} {fr:Fr} {K:SV→Hp→Nat→List Nm→Prop} {v:SV} {u:Hp} {n:Nat} {r:List Nm} (hg:o.guard = none) (hc:callOf true fr o.op = none) (hx:opX P fr hp nx o.op = some ⟨v,u,n,r⟩) (hk:K v u n r):stepW dt P ops o fr hp nx K:=by
 obtain ⟨h1,h2⟩:=opX_ok hx
 unfold stepW
 rw [hg]
 simp only
 unfold coreW
 rw [hc]
 refine .inl ⟨rfl,opX_sem hx,?_⟩
 cases dt with
 | false=>exact h2.mono rfl fun v u n r he=>by obtain ⟨rfl,rfl,rfl,rfl⟩:=he; exact hk
 | true=>exact ⟨_,h1,hk,h2⟩
theorem ceOps_run {call:FuncId→List SV→Hp→Nat→Option (SV×Hp×Nat)} (hcall:CallOk P call) {ops:Array Oper} {K:Fr→Hp→Nat→Prop} {fr':Fr} {hp':Hp} {nx':Nat} {acc':List Nms}:∀ (l:List Oper) (fr:Fr) (hp:Hp) (nx:Nat) (acc:List Nms),ceOps P call false ops l fr hp nx acc = some (fr',hp',nx',acc')→K fr' hp' nx'→runOps P ops l fr hp nx K
 | [],fr,hp,nx,acc,h,hk=>by cases h; exact hk
 | o::rest,fr,hp,nx,acc,h,hk=>by
  unfold ceOps at h
  split at h
  ·cases h
  ·rename_i hd
   exact stepW_skip hd (ceOps_run hcall rest _ _ _ _ h hk)
  ·rename_i hd
   split at h
   ·rename_i c hc
    split at h
    ·rename_i v u n' ks he
     exact stepW_call hd hc (ceCall_ok hcall he (ceOps_run hcall rest _ _ _ _ h hk))
    ·cases h
   ·rename_i hc
    split at h
    ·rename_i hg hx
     exact stepW_b hg hc hx (ceOps_run hcall rest _ _ _ _ h hk)
    ·split at h
     ·split at h
      ·rename_i hg hx
       exact stepW_x hg hc hx (ceOps_run hcall rest _ _ _ _ h hk)
      ·cases h
     ·rename_i sd val upd nx2 rds hop
      rw [Bool.cond_eq_ite] at h
      split at h
      ·rename_i hq
       simp only [Bool.and_eq_true,Bool.not_eq_true'] at hq
       exact stepW_done hd hc hop (sideC_ok hop hq.1) hq.2 (ceOps_run hcall rest _ _ _ _ h hk)
      ·split at h
       ·rename_i hg hx
        exact stepW_x hg hc hx (ceOps_run hcall rest _ _ _ _ h hk)
       ·cases h
theorem ceOps_draw {call:FuncId→List SV→Hp→Nat→Option (SV×Hp×Nat)} (hcall:CallOk P call) {ops:Array Oper} {K:List Nms→Fr→Hp→Nat→Prop} {fr':Fr} {hp':Hp} {nx':Nat} {acc':List Nms}:∀ (l:List Oper) (fr:Fr) (hp:Hp) (nx:Nat) (acc:List Nms),ceOps P call true ops l fr hp nx acc = some (fr',hp',nx',acc')→K acc' fr' hp' nx'→runD P ops l fr hp nx acc K
 | [],fr,hp,nx,acc,h,hk=>by cases h; exact hk
 | o::rest,fr,hp,nx,acc,h,hk=>by
  unfold ceOps at h
  split at h
  ·cases h
  ·rename_i hd
   exact stepW_skip hd (ceOps_draw hcall rest _ _ _ _ h hk)
  ·rename_i hd
   split at h
   ·rename_i c hc
    split at h
    ·rename_i v u n' ks he
     exact stepW_call hd hc (ceCall_ok hcall he (ceOps_draw hcall rest _ _ _ _ h hk))
    ·cases h
   ·rename_i hc
    split at h
    ·rename_i hg hx
     exact stepW_b hg hc hx (ceOps_draw hcall rest _ _ _ _ h hk)
    ·split at h
     ·split at h
      ·rename_i hg hx
       exact stepW_x hg hc hx (ceOps_draw hcall rest _ _ _ _ h hk)
      ·cases h
     ·rename_i sd val upd nx2 rds hop
      rw [Bool.cond_eq_ite] at h
      split at h
      ·rename_i hq
       simp only [Bool.and_eq_true,Bool.not_eq_true'] at hq
       exact stepW_done hd hc hop (sideC_ok hop hq.1) hq.2 (ceOps_draw hcall rest _ _ _ _ h hk)
      ·split at h
       ·rename_i hg hx
        exact stepW_x hg hc hx (ceOps_draw hcall rest _ _ _ _ h hk)
       ·cases h
def cmpF:Nat→Fr→Fr
 | 0,fr=>fr
 | _+1,[]=>[]
 | n+1,p::r=>p::(cmpF n r).filter fun q=>!(q.1 == p.1)
def cmpH:Nat→Hp→Hp
 | 0,hp=>hp
 | _+1,[]=>[]
 | n+1,p::r=>p::(cmpH n r).filter fun q=>!(q.1.eqk p.1)
theorem getF_filter (a d:Nat) (h:a≠d):∀ fr:Fr,getF (fr.filter fun q=>!(q.1 == a)) d = getF fr d
 | []=>rfl
 | p::r=>by
  simp only [List.filter]
  cases he:p.1 == a with
  | true =>
   simp only [Bool.not_true,getF]
   rw [getF_filter a d h r]
   have:p.1 = a:=by simpa using he
   rw [show (p.1 == d) = false from by simpa using fun e=>h (this ▸ e)]; rfl
  | false=>simp only [Bool.not_false,getF]; rw [getF_filter a d h r]
theorem cmpF_get:∀ (n:Nat) (fr:Fr) (d:Nat),getF (cmpF n fr) d = getF fr d
 | 0,fr,d=>rfl
 | n+1,[],d=>rfl
 | n+1,p::r,d=>by
  simp only [cmpF,getF]
  cases he:p.1 == d with
  | true=>rfl
  | false=>simp only [cond_false]; rw [getF_filter p.1 d (by simpa using he),cmpF_get n r d]
theorem getH_filter (a d:Nm) (h:a.key≠d.key):∀ hp:Hp,getH (hp.filter fun q=>!(q.1.eqk a)) d = getH hp d
 | []=>rfl
 | p::r=>by
  simp only [List.filter]
  cases he:p.1.eqk a with
  | true =>
   simp only [Bool.not_true,getH]
   rw [getH_filter a d h r]
   have:p.1.key = a.key:=Nm.eqk_iff.1 he
   rw [Nm.eqk_no (fun e=>h (this ▸ e))]; rfl
  | false=>simp only [Bool.not_false,getH]; rw [getH_filter a d h r]
theorem cmpH_get:∀ (n:Nat) (hp:Hp) (d:Nm),getH (cmpH n hp) d = getH hp d
 | 0,hp,d=>rfl
 | n+1,[],d=>rfl
 | n+1,p::r,d=>by
  simp only [cmpH,getH]
  cases he:p.1.eqk d with
  | true=>rfl
  | false =>
   simp only [cond_false]
   rw [getH_filter p.1 d (fun e=>by rw [Nm.eqk_iff.2 e] at he; cases he),cmpH_get n r d]
theorem cmp_eq (a b:Nat) (fr:Fr) (hp:Hp):EqSt fr (cmpF a fr) hp (cmpH b hp):=⟨fun d=>.inl (cmpF_get a fr d),fun k=>cmpH_get b hp k⟩
def ceLoop (body:Fr→Hp→Nat→Option (SExit×Fr×Hp×Nat)):Nat→Fr→Hp→Nat→Option (SExit×Fr×Hp×Nat)
 | 0,_,_,_=>none
 | n+1,fr,hp,nx=>match body fr hp nx with
  | some (.normal,fr',hp',nx')=>ceLoop body n fr' hp' nx'
  | r=>r
def ceReg (P:Program) (call:FuncId→List SV→Hp→Nat→Option (SV×Hp×Nat)) (ops:Array Oper) (d:Bool) (fr:Fr) (hp:Hp) (nx:Nat):Option (SExit×Fr×Hp×Nat):=match ceOps P call d ops ops.toList fr hp nx [] with
 | some (fr',hp',nx',acc)=>bif !d || orderOk ops acc (aheads ops.toList) then some (.normal,cmpF (fr'.length - fr.length) fr',cmpH (hp'.length - hp.length) hp',nx') else none
 | none=>none
def ceC (P:Program) (call:FuncId→List SV→Hp→Nat→Option (SV×Hp×Nat)) (fuel:Nat):Code→Fr→Hp→Nat→Option (SExit×Fr×Hp×Nat)
 | .skip,fr,hp,nx=>some (.normal,fr,hp,nx)
 | .label _,fr,hp,nx=>some (.normal,fr,hp,nx)
 | .region _ ops d,fr,hp,nx=>ceReg P call ops d fr hp nx
 | .seq x y,fr,hp,nx=>match ceC P call fuel x fr hp nx with
  | some (.normal,fr',hp',nx')=>ceC P call fuel y fr' hp' nx'
  | r=>r
 | .cond c x y,fr,hp,nx=>match evS true fr c with
  | .v (.bool b)=>bif b then ceC P call fuel x fr hp nx else ceC P call fuel y fr hp nx
  | _=>none
 | .block id c,fr,hp,nx=>match ceC P call fuel c fr hp nx with
  | some (.exit j,fr',hp',nx')=>bif j == id then some (.normal,fr',hp',nx') else some (.exit j,fr',hp',nx')
  | r=>r
 | .exit id,fr,hp,nx=>some (.exit id,fr,hp,nx)
 | .loop c,fr,hp,nx=>ceLoop (ceC P call fuel c) fuel fr hp nx
 | .scope c,fr,hp,nx=>ceC P call fuel c fr hp nx
 | .ret,fr,hp,nx=>some (.ret,fr,hp,nx)
 | _,_,_,_=>none
theorem ceC_ok {call:FuncId→List SV→Hp→Nat→Option (SV×Hp×Nat)} (hcall:CallOk P call) (hfol:P.follows .mixedOrders = true) {fuel m N:Nat}:∀ (c:Code) (Q:SPost) (fr:Fr) (hp:Hp) (nx:Nat) (e:SExit) (fr':Fr) (hp':Hp) (nx':Nat),ceC P call fuel c fr hp nx = some (e,fr',hp',nx')→Q e fr' hp' nx'→Swp P m N c Q fr hp nx:=by
 intro c
 induction c with
 | skip=>intro Q fr hp nx e fr' hp' nx' h hq; simp only [ceC] at h; cases h; exact hq
 | label l=>intro Q fr hp nx e fr' hp' nx' h hq; simp only [ceC] at h; cases h; exact hq
 | exit id=>intro Q fr hp nx e fr' hp' nx' h hq; simp only [ceC] at h; cases h; exact hq
 | ret=>intro Q fr hp nx e fr' hp' nx' h hq; simp only [ceC] at h; cases h; exact hq
 | region id ops d =>
  intro Q fr hp nx e fr' hp' nx' h hq
  simp only [ceC] at h
  unfold ceReg at h
  split at h
  ·rename_i f1 h1 n1 acc he
   rw [Bool.cond_eq_ite] at h
   split at h
   ·rename_i ho
    cases h
    cases d with
    | false=>exact ceOps_run hcall (K:=EqW (Q .normal)) _ _ _ _ _ he ⟨_,_,cmp_eq _ _ _ _,hq⟩
    | true=>exact ceOps_draw hcall (K:=fun ns fr' hp' nx'=>Need (P.follows .mixedOrders = true∧orderOk ops ns (aheads ops.toList) = true) (EqW (Q .normal) fr' hp' nx')) _ _ _ _ _ he ⟨⟨hfol,by simpa using ho⟩,_,_,cmp_eq _ _ _ _,hq⟩
   ·cases h
  ·cases h
 | seq x y hx hy =>
  intro Q fr hp nx e fr' hp' nx' h hq
  simp only [ceC] at h
  show Swp P m N x (thenS (Wk P m (Swp P m N y Q)) Q) fr hp nx
  split at h
  ·rename_i f1 h1 n1 he
   exact hx _ _ _ _ _ _ _ _ he (.inl (.inl (hy Q _ _ _ _ _ _ _ h hq)))
  ·rename_i hn
   refine hx _ _ _ _ _ _ _ _ h ?_
   cases e with
   | normal=>exact absurd h (hn _ _ _)
   | exit j=>exact hq
   | ret=>exact hq
 | cond c x y hx hy =>
  intro Q fr hp nx e fr' hp' nx' h hq
  simp only [ceC] at h
  show match evS true fr c with
   | .v (.bool b)=>Br b (Swp P m N x Q fr hp nx) (Swp P m N y Q fr hp nx)
   | _=>False
  split at h
  ·rename_i b hb
   cases b with
   | true=>rw [br_true]; exact hx Q _ _ _ _ _ _ _ h hq
   | false=>rw [br_false]; exact hy Q _ _ _ _ _ _ _ h hq
  ·cases h
 | block id c ih =>
  intro Q fr hp nx e fr' hp' nx' h hq
  simp only [ceC] at h
  show Swp P m N c (blockS id (wkS P m Q)) fr hp nx
  split at h
  ·rename_i j f1 h1 n1 he
   rw [Bool.cond_eq_ite] at h
   split at h
   ·rename_i hj
    cases h
    refine ih _ _ _ _ _ _ _ _ he ?_
    simp only [blockS]
    rw [if_pos (by simpa using hj)]
    exact .inl (.inl hq)
   ·rename_i hj
    cases h
    refine ih _ _ _ _ _ _ _ _ he ?_
    simp only [blockS]
    rw [if_neg (by simpa using hj)]
    exact hq
  ·rename_i hn
   refine ih _ _ _ _ _ _ _ _ h ?_
   cases e with
   | normal=>exact .inl (.inl hq)
   | exit j=>exact absurd h (hn _ _ _ _)
   | ret=>exact hq
 | scope c ih=>intro Q fr hp nx e fr' hp' nx' h hq; simp only [ceC] at h; exact ih Q _ _ _ _ _ _ _ h hq
 | loop c ih =>
  intro Q fr hp nx e fr' hp' nx' h hq
  simp only [ceC] at h
  have key:∀ (k:Nat) (fr:Fr) (hp:Hp) (nx:Nat),ceLoop (ceC P call fuel c) k fr hp nx = some (e,fr',hp',nx')→LoopR P m (Swp P m N c) Q k fr hp nx:=by
   intro k
   induction k with
   | zero=>intro fr hp nx h; cases h
   | succ k ihk =>
    intro fr hp nx h
    unfold ceLoop at h
    split at h
    ·rename_i f1 h1 n1 he
     exact ih _ _ _ _ _ _ _ _ he (ihk _ _ _ h)
    ·rename_i hn
     refine ih _ _ _ _ _ _ _ _ h ?_
     cases e with
     | normal=>exact absurd h (hn _ _ _)
     | exit j=>exact hq
     | ret=>exact hq
  exact ⟨fuel,key fuel _ _ _ h⟩
 | _=>intro Q fr hp nx e fr' hp' nx' h hq; simp only [ceC] at h; cases h
def ceLoad (P:Program) (t:TypeId) (x:SV) (hp:Hp) (nx:Nat):Option SV:=match x with
 | .ptr k off=>match getH hp k with
  | .row _ cs=>match takeS P t cs off [k.key] nx with
   | .ok _ e=>bif takeB P t cs off then some e.val else none
   | .bad=>none
  | _=>none
 | .iptr cs off=>match takeS P t cs off [] nx with
   | .ok _ e=>bif takeB P t cs off then some e.val else none
   | .bad=>none
 | _=>none
theorem ceLoad_ok {t:TypeId} {x v:SV} (h:ceLoad P t x hp nx = some v):∃ s e,loadS P t x hp nx = .ok s e∧s∧e.val = v:=by
 unfold ceLoad at h
 unfold loadS
 split at h
 ·split at h
  ·rename_i hk
   split at h
   ·rename_i s e ht
    rw [Bool.cond_eq_ite] at h
    split at h
    ·rename_i hb
     cases h
     exact ⟨s,e,by simp only [hk,rowS]; exact ht,takeB_ok ht hb,rfl⟩
    ·cases h
   ·cases h
  ·cases h
 ·split at h
  ·rename_i s e ht
   rw [Bool.cond_eq_ite] at h
   split at h
   ·rename_i hb
    cases h
    exact ⟨s,e,ht,takeB_ok ht hb,rfl⟩
   ·cases h
  ·cases h
 ·cases h
def ceRes (P:Program) (fr:Fr) (hp:Hp) (nx:Nat):List ResultVar→Option (List SV)
 | []=>some []
 | .tmp t::r=>match ceRes P fr hp nx r with
  | some xs=>some (getF fr t::xs)
  | none=>none
 | .cell a t::r=>match ceLoad P t (getF fr a) hp nx,ceRes P fr hp nx r with
  | some v,some xs=>some (v::xs)
  | _,_=>none
theorem ceRes_ok {fr:Fr}:∀ (rs:List ResultVar) (K:List SV→Prop) (xs:List SV),ceRes P fr hp nx rs = some xs→K xs→resW P fr hp nx rs K
 | [],K,xs,h,hk=>by cases h; exact hk
 | .tmp t::r,K,xs,h,hk=>by
  unfold ceRes at h
  split at h
  ·rename_i ys he
   cases h
   exact ceRes_ok r _ ys he hk
  ·cases h
 | .cell a t::r,K,xs,h,hk=>by
  unfold ceRes at h
  split at h
  ·rename_i v ys h1 h2
   cases h
   obtain ⟨s,e,g1,g2,rfl⟩:=ceLoad_ok h1
   show (loadS P t (getF fr a) hp nx).wp fun e=>resW P fr hp nx r fun xs=>K (e.val::xs)
   rw [g1]
   exact ⟨g2,ceRes_ok r _ ys h2 hk⟩
  ·cases h
def gaveN (hp:Hp) (m:Nat):List Nm:=(List.range m).map Nm.t
def ceEnd0 (m:Nat) (x:SV) (hp:Hp) (pr:List (Nm×Nm)) (n:Nat):Option (SV×Hp×Nat) :=
 bif prOk pr && (okN m pr [] && (okH m n pr (hinN (tauN pr hp) hp pr) && Nat.ble m n)) then some (wkV (tauN pr hp) x,hinN (tauN pr hp) hp pr,n) else none
def ceEnd1 (m:Nat) (x:SV) (hp:Hp) (nx:Nat) (pr:List (Nm×Nm)):Option (SV×Hp×Nat):=ceEnd0 m x hp pr (bif pr.isEmpty && m == 0 then 0 else nx)
def ceEnd (m:Nat) (x:SV) (hp:Hp) (nx:Nat):Option (SV×Hp×Nat):=ceEnd1 m x hp nx (selfN (closeN hp 100000 (namesV x++gaveN hp m) []))
theorem ceEnd_ok {m:Nat} {x X:SV} {H:Hp} {n:Nat} (h:ceEnd m x hp nx = some (X,H,n)):RetW P m (fun r h' n'=>r = X∧h' = H∧n' = n) x hp:=by
 unfold ceEnd at h
 generalize selfN (closeN hp 100000 (namesV x++gaveN hp m) []) = pr at h
 unfold ceEnd1 at h
 generalize (bif pr.isEmpty && m == 0 then 0 else nx) = n0 at h
 unfold ceEnd0 at h
 rw [Bool.cond_eq_ite] at h
 split at h
 ·rename_i hb
  simp only [Bool.and_eq_true] at hb
  obtain ⟨b1,b2,b3,b4⟩:=hb
  cases h
  exact ret_mk _ _ _ pr [] ⟨rfl,rfl,rfl⟩ (wk_le (tau_ok pr hp) x) (hin_le' b1) b2 b3 (Nat.le_of_ble_eq_true b4)
 ·cases h
abbrev Hook:=FuncId→List SV→Hp→Nat→Option (SV×Hp×Nat)
def noHook:Hook:=fun _ _ _ _=>none
def orHook (hk call:Hook):Hook:=fun f a h m=>match hk f a h m with
 | some r=>some r
 | none=>call f a h m
theorem orHook_ok {hk call:Hook} (h1:CallOk P hk) (h2:CallOk P call):CallOk P (orHook hk call):=fun f a h m x h' n he=>by
 unfold orHook at he
 split at he
 ·rename_i r hr
  cases he; exact h1 _ _ _ _ _ _ _ hr
 ·exact h2 _ _ _ _ _ _ _ he
theorem noHook_ok:CallOk P noHook:=fun _ _ _ _ _ _ _ he=>by cases he
def ceF (P:Program) (hk:Hook) (fuel:Nat):Nat→FuncId→List SV→Hp→Nat→Option (SV×Hp×Nat)
 | 0,_,_,_,_=>none
 | n+1,f,args,hin,m=>match P.funcs[f]? with
  | some fn=>match fn.body with
   | some c => bif decide (fn.name ≠ "runtime.NumGoroutine") && (Nat.ble args.length fn.ntmps && codeOk fn.ntmps c) then
     match ceC P (orHook hk (ceF P hk fuel n)) fuel c (frArgs 0 args) hin m with
     | some (.normal,fr,hp,nx)=>match ceRes P fr hp nx fn.results.toList with
      | some xs=>ceEnd m (oneOf xs) hp nx
      | none=>none
     | some (.ret,fr,hp,nx)=>match ceRes P fr hp nx fn.results.toList with
      | some xs=>ceEnd m (oneOf xs) hp nx
      | none=>none
     | _=>none
    else none
   | none=>none
  | none=>none
theorem ceF_ok (hfol:P.follows .mixedOrders = true) {hk:Hook} (hhk:CallOk P hk) (fuel:Nat):∀ n:Nat,CallOk P (ceF P hk fuel n)
 | 0=>fun f args hin m x h n he=>by cases he
 | n+1=>fun f args hin m x h n' he=>by
  unfold ceF at he
  split at he
  ·rename_i fn hf
   split at he
   ·rename_i c hb
    rw [Bool.cond_eq_ite] at he
    split at he
    ·rename_i hc
     simp only [Bool.and_eq_true,decide_eq_true_eq] at hc
     obtain ⟨c1,c2,c3⟩:=hc
     have fin:∀ {e fr hp nx xs},(e = .normal∨e = .ret)→ceC P (orHook hk (ceF P hk fuel n)) fuel c (frArgs 0 args) hin m = some (e,fr,hp,nx)→ceRes P fr hp nx fn.results.toList = some xs→ceEnd m (oneOf xs) hp nx = some (x,h,n')→SpecW P f args hin m (fun r h' n2=>r = x∧h' = h∧n2 = n'):=by
      intro e fr hp nx xs hee hce hres hend
      refine spec_of (draw_ok _) hf hb c1 c2 c3 (ceC_ok (orHook_ok hhk (ceF_ok hfol hhk fuel n)) hfol c _ _ _ _ _ _ _ _ hce ?_)
      have:=ceRes_ok (P:=P) (hp:=hp) (nx:=nx) fn.results.toList (fun xs=>RetW P m (fun r h' n2=>r = x∧h' = h∧n2 = n') (oneOf xs) hp) xs hres (ceEnd_ok hend)
      rcases hee with rfl | rfl <;> exact this
     split at he
     ·rename_i fr hp nx hce
      split at he
      ·rename_i xs hres; exact fin (.inl rfl) hce hres he
      ·cases he
     ·rename_i fr hp nx hce
      split at he
      ·rename_i xs hres; exact fin (.inr rfl) hce hres he
      ·cases he
     ·cases he
    ·cases he
   ·cases he
  ·cases he
theorem closed_call (hfol:P.follows .mixedOrders = true) (fuel n:Nat) {f:FuncId} {x:SV} (h:ceF P noHook fuel n f [] [] 0 = some (x,[],0)):SpecW P f [] [] 0 (fun r h n=>r = x∧h = []∧n = 0):=ceF_ok hfol noHook_ok fuel n _ _ _ _ _ _ _ h
end Go.Sx
end

section
namespace Go.Sx
open Go.RowKit
set_option linter.unusedVariables false
set_option linter.unusedSimpArgs false
variable {P:Program} {hp:Hp} {nx:Nat}
structure VArr (n:Nat) where
 l:List Int
 h:l.length = n
variable {n:Nat}
theorem VArr.ext:∀ {a b:VArr n},a.l = b.l→a = b
 | ⟨_,_⟩,⟨_,_⟩,h=>by simp only at h; subst h; rfl
instance : DecidableEq (VArr n):=fun a b=>if h:a.l = b.l then .isTrue (VArr.ext h) else .isFalse fun e=>h (e ▸ rfl)
instance : Inhabited (VArr n):=⟨⟨List.replicate n 0,by simp⟩⟩
def VArr.get (a:VArr n) (i:Int):Int:=a.l.getD i.toNat 0
def VArr.set (a:VArr n) (i v:Int):VArr n:=⟨a.l.set i.toNat v,by rw [List.length_set]; exact a.h⟩
def VArr.cells (a:VArr n):List SV:=(List.range n).map fun k=>.v (.int .i64 (a.l.getD k 0))
theorem VArr.cells_fl (a:VArr n):a.cells = a.l.map fun x=>.v (.int .i64 x):=by
 refine List.ext_getElem (by simp [VArr.cells,a.h]) fun i h1 h2=>?_
 simp only [VArr.cells,List.getElem_map,List.getElem_range,List.length_map] at h2 ⊢
 rw [List.getD_eq_getElem?_getD,List.getElem?_eq_getElem h2]; rfl
theorem VArr.st (a:VArr n):stL a.cells = true:=by
 rw [VArr.cells_fl]
 induction a.l with
 | nil=>rfl
 | cons x l ih=>simpa [stL,SV.st] using ih
instance : Enc (VArr n):=⟨n,VArr.cells,fun a=>by simp [VArr.cells],fun a=>by simp [VArr.cells,oneS,Value.oneCell'],VArr.st⟩
theorem VArr.len (a:VArr n):(Enc.cells a).length = n:=Enc.len a
theorem VArr.at (a:VArr n) (e:Int) (k:0≤e∧e < (n:Int)) (d:SV):(Enc.cells a).getD e.toNat d = .v (.int .i64 (a.get e)):=by
 show a.cells.getD e.toNat d = _
 have hl:e.toNat < a.cells.length:=by have:=VArr.len a; show _ < (Enc.cells a).length; omega
 rw [List.getD_eq_getElem?_getD,List.getElem?_eq_getElem hl]
 simp only [VArr.cells,List.getElem_map,List.getElem_range]
 rfl
theorem VArr.put (a:VArr n) (e v:Int) (k:0≤e∧e < (n:Int)):(Enc.cells a).set e.toNat (.v (.int .i64 v)) = Enc.cells (a.set e v):=by
 show a.cells.set _ _ = (a.set e v).cells
 rw [VArr.cells_fl,VArr.cells_fl]
 simp only [VArr.set,List.map_set]
theorem ob_ixa (kk:Nm) (off len z:Nat) (e:Int) (nx:Nat) (k:0≤e∧e < (len:Int)):resOb (.ok (0≤e∧e < (len:Int)) ⟨.ptr kk (off+e.toNat * z),[],nx,[]⟩) ⟨.ptr kk (off+e.toNat * z),[],nx,[]⟩:=ob_ok k rfl rfl
theorem ob_lda (pre post:List SV) (a:VArr n) (e:Int) (o:Nat) (k:0≤e∧e < (n:Int)) (ho:o = pre.length+e.toNat * 1) (d:SV) (nx:Nat) (rds:List Nm) :
  resOb (.ok (o < (pre++(Enc.cells a++post)).length) ⟨(pre++(Enc.cells a++post)).getD o d,[],nx,rds⟩) ⟨.v (.int .i64 (a.get e)),[],nx,rds⟩:=by
 have hl:=VArr.len a
 rw [Nat.mul_one] at ho
 refine ob_ok (by simp only [List.length_append,hl]; omega) ?_ rfl
 rw [ho,List.getD_eq_getElem?_getD,List.getElem?_append_right (by omega),Nat.add_sub_cancel_left,List.getElem?_append_left (by omega),← List.getD_eq_getElem?_getD]
 exact VArr.at a e k d
theorem splice_one (cs:List SV) (o:Nat) (x:SV):splice cs o [x] = cs.set o x:=rfl
theorem arr_splice (pre post:List SV) (a:VArr n) (e v:Int) (o:Nat) (k:0≤e∧e < (n:Int)) (ho:o = pre.length+e.toNat * 1):splice (pre++(Enc.cells a++post)) o [.v (.int .i64 v)] = pre++(Enc.cells (a.set e v)++post):=by
 have hl:=VArr.len a
 rw [Nat.mul_one] at ho
 rw [splice_one,ho,List.set_append_right _ _ (by omega),Nat.add_sub_cancel_left,List.set_append_left _ _ (by omega),VArr.put a e v k]
theorem ob_sta (pre post:List SV) (a:VArr n) (e v:Int) (o:Nat) (k:0≤e∧e < (n:Int)) (ho:o = pre.length+e.toNat * 1) (kk:Nat) (nx et t:Nat) (hs:szT P t = some 1) :
  resOb (.ok (szT P t = some 1∧true = true∧o+1≤(pre++(Enc.cells a++post)).length) ⟨.any,[(Nm.t kk,.row et (splice (pre++(Enc.cells a++post)) o [.v (.int .i64 v)]))],nx,[Nm.t kk]⟩) ⟨.any,[(Nm.t kk,.row et (pre++(Enc.cells (a.set e v)++post)))],nx,[Nm.t kk]⟩:=by
 have hl:=VArr.len a
 refine ob_ok ⟨hs,rfl,?_⟩ rfl ?_
 ·simp only [List.length_append,hl]; omega
 ·rw [arr_splice pre post a e v o k ho]
theorem leL_arr {hp hp':Hp} {σ:List (Nm×Nm)} {frz:List Nm} (a:VArr n) (xs ys:List SV):leL hp hp' σ frz (Enc.cells a++xs) (Enc.cells a++ys) = leL hp hp' σ frz xs ys:=by
 refine propext ?_
 show leL hp hp' σ frz (a.cells++xs) (a.cells++ys)↔_
 rw [VArr.cells_fl]
 induction a.l with
 | nil=>exact Iff.rfl
 | cons x l ih =>
  simp only [List.map_cons,List.cons_append,leL]
  rw [ih]
  simp only [leS,true_and]
theorem renL_arr (τ:Nm→Nm) (a:VArr n) (xs:List SV):renL τ (Enc.cells a++xs) = Enc.cells a++renL τ xs:=by
 show renL τ (a.cells++xs) = a.cells++_
 rw [VArr.cells_fl]
 induction a.l with
 | nil=>rfl
 | cons x l ih=>simp only [List.map_cons,List.cons_append,renL,renS,ih]
theorem stL_arr (a:VArr n) (xs:List SV):stL (Enc.cells a++xs) = stL xs:=by
 show stL (a.cells++xs) = _
 rw [VArr.cells_fl]
 induction a.l with
 | nil=>rfl
 | cons x l ih=>simpa [stL,SV.st] using ih
theorem clL_arr (a:VArr n) (xs:List SV):clL (Enc.cells a++xs) = clL xs:=by
 show clL (a.cells++xs) = _
 rw [VArr.cells_fl]
 induction a.l with
 | nil=>rfl
 | cons x l ih=>simpa [clL,SV.cl] using ih
theorem nimL_arr (a:VArr n) (xs:List SV):nimL (Enc.cells a++xs) = nimL xs:=by
 show nimL (a.cells++xs) = _
 rw [VArr.cells_fl]
 induction a.l with
 | nil=>rfl
 | cons x l ih=>simpa [nimL,SV.nim] using ih
theorem nim_VArr (xs:List (VArr n)):nimL (fl xs) = true:=nimL_fl (fun a=>by have:=nimL_arr a []; simpa [nimL] using this) xs
theorem sz_VArr:Enc.sz (VArr n) = n:=rfl
theorem stL_VArr (a:VArr n):stL (Enc.cells a) = true:=Enc.stc a
theorem clL_VArr (a:VArr n):clL (Enc.cells a) = true:=stL_clL (Enc.stc a)
theorem renL_VArr (τ:Nm→Nm) (a:VArr n):renL τ (Enc.cells a) = Enc.cells a:=renL_cl (clL_VArr a)
theorem nimL_VArr (a:VArr n):nimL (Enc.cells a) = true:=by have:=nimL_arr a []; simpa [nimL] using this
theorem leL_VArr {hp hp':Hp} {σ:List (Nm×Nm)} {frz:List Nm} (a:VArr n):leL hp hp' σ frz (Enc.cells a) (Enc.cells a) = True:=by
 have:=leL_arr (hp:=hp) (hp':=hp') (σ:=σ) (frz:=frz) a [] []
 simp only [List.append_nil,leL] at this
 exact this
attribute [push_cast] leL_arr renL_arr stL_arr clL_arr nimL_arr nim_VArr sz_VArr stL_VArr clL_VArr renL_VArr nimL_VArr leL_VArr
def VArr.c0 (a:VArr n):Int:=a.l.getD 0 0
def VArr.c1 (a:VArr n):Int:=a.l.getD 1 0
def VArr.c2 (a:VArr n):Int:=a.l.getD 2 0
def VArr.c3 (a:VArr n):Int:=a.l.getD 3 0
def VArr.c4 (a:VArr n):Int:=a.l.getD 4 0
def VArr.c5 (a:VArr n):Int:=a.l.getD 5 0
def VArr.c6 (a:VArr n):Int:=a.l.getD 6 0
def VArr.c7 (a:VArr n):Int:=a.l.getD 7 0
def VArr.c8 (a:VArr n):Int:=a.l.getD 8 0
def VArr.c9 (a:VArr n):Int:=a.l.getD 9 0
def VArr.c10 (a:VArr n):Int:=a.l.getD 10 0
def VArr.c11 (a:VArr n):Int:=a.l.getD 11 0
def VArr.c12 (a:VArr n):Int:=a.l.getD 12 0
def VArr.c13 (a:VArr n):Int:=a.l.getD 13 0
def VArr.c14 (a:VArr n):Int:=a.l.getD 14 0
def VArr.c15 (a:VArr n):Int:=a.l.getD 15 0
def VArr.c16 (a:VArr n):Int:=a.l.getD 16 0
def VArr.c17 (a:VArr n):Int:=a.l.getD 17 0
def VArr.c18 (a:VArr n):Int:=a.l.getD 18 0
def VArr.c19 (a:VArr n):Int:=a.l.getD 19 0
def VArr.c20 (a:VArr n):Int:=a.l.getD 20 0
def VArr.c21 (a:VArr n):Int:=a.l.getD 21 0
def VArr.c22 (a:VArr n):Int:=a.l.getD 22 0
def VArr.c23 (a:VArr n):Int:=a.l.getD 23 0
def VArr.c24 (a:VArr n):Int:=a.l.getD 24 0
def VArr.c25 (a:VArr n):Int:=a.l.getD 25 0
def VArr.c26 (a:VArr n):Int:=a.l.getD 26 0
def VArr.c27 (a:VArr n):Int:=a.l.getD 27 0
def VArr.c28 (a:VArr n):Int:=a.l.getD 28 0
def VArr.c29 (a:VArr n):Int:=a.l.getD 29 0
def VArr.c30 (a:VArr n):Int:=a.l.getD 30 0
def VArr.c31 (a:VArr n):Int:=a.l.getD 31 0
def VArr.c32 (a:VArr n):Int:=a.l.getD 32 0
def VArr.c33 (a:VArr n):Int:=a.l.getD 33 0
def VArr.c34 (a:VArr n):Int:=a.l.getD 34 0
def VArr.c35 (a:VArr n):Int:=a.l.getD 35 0
def VArr.c36 (a:VArr n):Int:=a.l.getD 36 0
def VArr.c37 (a:VArr n):Int:=a.l.getD 37 0
def VArr.c38 (a:VArr n):Int:=a.l.getD 38 0
def VArr.c39 (a:VArr n):Int:=a.l.getD 39 0
def VArr.c40 (a:VArr n):Int:=a.l.getD 40 0
def VArr.c41 (a:VArr n):Int:=a.l.getD 41 0
def VArr.c42 (a:VArr n):Int:=a.l.getD 42 0
def VArr.c43 (a:VArr n):Int:=a.l.getD 43 0
def VArr.c44 (a:VArr n):Int:=a.l.getD 44 0
def VArr.c45 (a:VArr n):Int:=a.l.getD 45 0
def VArr.c46 (a:VArr n):Int:=a.l.getD 46 0
def VArr.c47 (a:VArr n):Int:=a.l.getD 47 0
def VArr.c48 (a:VArr n):Int:=a.l.getD 48 0
def VArr.c49 (a:VArr n):Int:=a.l.getD 49 0
def VArr.c50 (a:VArr n):Int:=a.l.getD 50 0
def VArr.c51 (a:VArr n):Int:=a.l.getD 51 0
def VArr.c52 (a:VArr n):Int:=a.l.getD 52 0
def VArr.c53 (a:VArr n):Int:=a.l.getD 53 0
def VArr.c54 (a:VArr n):Int:=a.l.getD 54 0
def VArr.c55 (a:VArr n):Int:=a.l.getD 55 0
def VArr.c56 (a:VArr n):Int:=a.l.getD 56 0
def VArr.c57 (a:VArr n):Int:=a.l.getD 57 0
def VArr.c58 (a:VArr n):Int:=a.l.getD 58 0
def VArr.c59 (a:VArr n):Int:=a.l.getD 59 0
def VArr.c60 (a:VArr n):Int:=a.l.getD 60 0
def VArr.c61 (a:VArr n):Int:=a.l.getD 61 0
def VArr.c62 (a:VArr n):Int:=a.l.getD 62 0
def VArr.c63 (a:VArr n):Int:=a.l.getD 63 0
def VArr.c64 (a:VArr n):Int:=a.l.getD 64 0
end Go.Sx
end

section
namespace Go.Sx
open Go.RowKit
set_option linter.unusedVariables false
set_option linter.unusedSimpArgs false
variable {α β:Type} [Enc α] {P:Program} {hp hp':Hp} {nx:Nat} {σ:List (Nm×Nm)} {frz:List Nm}
def flP (F n:Nat):List SV:=(List.range n).map fun (i:Nat)=>SV.ptr (.s F ((i:Nat):Int)) 0
def famP (t:TypeId) (xs:List α):Int→Chunk:=fun i=>bif decide (0≤i∧i < (xs.length:Int)) then .row t (Enc.cells (ix xs i)) else .void
theorem famP_in {t:TypeId} {xs:List α} {i:Int} (k:0≤i∧i < (xs.length:Int)):famP t xs i = .row t (Enc.cells (ix xs i)):=by
 unfold famP; rw [decide_eq_true k]; rfl
theorem famP_out {t:TypeId} {xs:List α} {i:Int} (k:¬ (0≤i∧i < (xs.length:Int))):famP t xs i = .void:=by
 unfold famP; rw [decide_eq_false k]; rfl
theorem at_famP (t:TypeId) (xs:List α) (i:Int):(Chunk.fam (famP t xs)).at i = famP t xs i:=by
 simp only [Chunk.at]
 by_cases k:0≤i∧i < (xs.length:Int)
 ·rw [famP_in k]
 ·rw [famP_out k]
theorem famP_mem {t:TypeId} {xs:List α} {i:Int} (k:0≤i∧i < (xs.length:Int)):(Chunk.fam (famP t xs)).at i = .row t (Enc.cells (ix xs i)):=(at_famP t xs i).trans (famP_in k)
theorem famP_set {t:TypeId} {xs:List α} {i:Int} (k:0≤i∧i < (xs.length:Int)) (y:α):upI (fun q=>(Chunk.fam (famP t xs)).at q) i (.row t (Enc.cells y)) = famP t (xs.set i.toNat y):=by
 funext q
 unfold upI
 by_cases hq:q = i
 ·subst hq
  have k':0≤q∧q < (((xs.set q.toNat y).length:Nat):Int):=by rw [List.length_set]; exact k
  rw [famP_in k']
  have:ix (xs.set q.toNat y) q = y:=by unfold ix; rw [List.getD_eq_getElem?_getD,List.getElem?_set_self (by omega)]; rfl
  simp only [this,beq_self_eq_true,cond_true]
 ·rw [show (q == i) = false from by simpa using hq,cond_false]
  show (Chunk.fam (famP t xs)).at q = _
  rw [at_famP]
  by_cases kq:0≤q∧q < (xs.length:Int)
  ·rw [famP_in kq,famP_in (xs:=xs.set i.toNat y) (by rw [List.length_set]; exact kq)]
   have:ix (xs.set i.toNat y) q = ix xs q:=by unfold ix; rw [List.getD_eq_getElem?_getD,List.getD_eq_getElem?_getD,List.getElem?_set_ne (by omega)]
   rw [this]
  ·rw [famP_out kq,famP_out (xs:=xs.set i.toNat y) (by rw [List.length_set]; exact kq)]
theorem ob_memL (t:TypeId) (xs:List α) (i:Int) (k:0≤i∧i < (xs.length:Int)) (ty:TypeId) (off nx:Nat) (rds:List Nm) {e:Eff} (h:resOb (takeS P ty (Enc.cells (ix xs i)) off rds nx) e) :
  resOb (rowS ((Chunk.fam (famP t xs)).at i) fun _ cs=>takeS P ty cs off rds nx) e:=by
 rw [famP_mem k]; exact h
theorem ob_tkW {x:α} {ty:TypeId} {off nx n:Nat} {rds:List Nm} (ht:aggT P ty = some true) (hn:szT P ty = some n) (hj:off+n≤Enc.sz α) {v:List SV} (hv:((Enc.cells x).drop off).take n = v):resOb (takeS P ty (Enc.cells x) off rds nx) ⟨.agg v,[],nx,rds⟩:=by
 unfold takeS
 rw [ht,hn]
 exact ob_ok (by rw [Enc.len]; exact hj) (by rw [hv]) rfl
theorem ob_stP (ty:TypeId) (xs:List α) (i:Int) (k:0≤i∧i < (xs.length:Int)) (off:Nat) (vs:List SV) (y:α) (hj:off+vs.length≤Enc.sz α) (hy:splice (Enc.cells (ix xs i)) off vs = Enc.cells y) (F nx t:Nat) (hs:szT P t = some vs.length) (h1:vs.all oneS = true) :
  resOb (rowS ((Chunk.fam (famP ty xs)).at i) fun e cs=>.ok (szT P t = some vs.length∧vs.all oneS = true∧off+vs.length≤cs.length) ⟨.any,[(Nm.s F 0,.fam (upI (fun q=>(Chunk.fam (famP ty xs)).at q) i (.row e (splice cs off vs))))],nx,[Nm.s F 0]⟩) ⟨.any,[(Nm.s F 0,.fam (famP ty (xs.set i.toNat y)))],nx,[Nm.s F 0]⟩:=by
 rw [famP_mem k]
 refine ob_ok ⟨hs,h1,by rw [Enc.len]; exact hj⟩ rfl ?_
 rw [hy,famP_set k]
structure Birth (C C':Nm→Chunk) (Q K R:Nm):Prop where
 vd:C Q = .void
 kl:(C K).live = true
 q:C' Q = C K
 k:C' K = .dead
 oth:∀ j,j≠Q→j≠K→j≠R→C' j = C j
 kr:K≠R
 row:(∃ e cs cs',C R = .row e cs∧C' R = .row e cs'∧cs'.length = cs.length∧∀ (i:Nat) (x y:SV),cs[i]? = some x→cs'[i]? = some y→x = y∨(x = .ptr K 0∧y = .ptr Q 0)) ∨
 ∃es es',C R = .map es∧C' R = .map es'∧es'.length = es.length∧∀ (i:Nat) (x y:Value×SV),es[i]? = some x→es'[i]? = some y→x.1 = y.1∧(x.2 = y.2∨(x.2 = .ptr K 0∧y.2 = .ptr Q 0))
section sem
variable {w0:World} {I0 W0:Nat→Prop} {C C':Nm→Chunk} {Q K R:Nm} {ids:Ids} {w:World}
theorem Birth.liveR (hh:Birth C C' Q K R):(C R).live = true∧(C' R).live = true:=by
 rcases hh.row with ⟨e,cs,cs',h1,h2,_⟩ | ⟨es,es',h1,h2,_⟩ <;> (rw [h1,h2]; exact ⟨rfl,rfl⟩)
theorem Birth.old (hh:Birth C C' Q K R) {j:Nm} {b o:Nat} (hl:(C' j).live = true) (hi:upd ids Q (ids K) j = some (b,o)) :
 ∃k0,(C k0).live = true∧ids k0 = some (b,o)∧((j≠Q∧k0 = j∧j≠K)∨(j = Q∧k0 = K)):=by
 by_cases hQ:j = Q
 ·subst hQ; rw [upd_same] at hi; exact ⟨K,hh.kl,hi,.inr ⟨rfl,rfl⟩⟩
 ·rw [upd_ne _ _ hQ] at hi
  by_cases hK:j = K
  ·subst hK; rw [hh.k] at hl; cases hl
  by_cases hR:j = R
  ·subst hR; exact ⟨j,hh.liveR.1,hi,.inl ⟨hQ,rfl,hK⟩⟩
  ·rw [hh.oth j hQ hK hR] at hl; exact ⟨j,hl,hi,.inl ⟨hQ,rfl,hK⟩⟩
theorem Birth.ext (h:HSt P w0 I0 W0 C ids w) (hh:Birth C C' Q K R):Ext C ids (Im w0 I0 W0 C ids w) w C' (upd ids Q (ids K)) (Im w0 I0 W0 C' (upd ids Q (ids K)) w) w:=by
 refine ⟨fun b hb=>⟨⟨hb.1,hb.2.1,fun k hk o hi=>?_⟩,rfl⟩,fun j hj=>?_,fun j hj=>?_⟩
 ·obtain ⟨k0,h1,h2,_⟩:=hh.old hk hi
  exact hb.2.2 k0 h1 o h2
 ·have hQ:j≠Q:=fun e=>by rw [e,hh.vd] at hj; cases hj
  have hK:j≠K:=fun e=>by have:=hh.kl; rw [← e,hj] at this; cases this
  have hR:j≠R:=fun e=>by have:=hh.liveR.1; rw [← e,hj] at this; cases this
  rw [hh.oth j hQ hK hR]; exact hj
 ·have hQ:j≠Q:=fun e=>by rw [e,hh.vd] at hj; cases hj
  by_cases hK:j = K
  ·subst hK; exact .inl hh.k
  by_cases hR:j = R
  ·subst hR
   rcases hh.row with ⟨e,cs,cs',h1,h2,h3,_⟩ | ⟨es,es',h1,h2,_⟩
   ·exact .inr ⟨hh.liveR.2,upd_ne _ _ hQ,by rw [h1,h2]; exact ⟨rfl,Nat.le_of_eq h3⟩,fun _ _ _=>SameShape.refl _⟩
   ·exact .inr ⟨hh.liveR.2,upd_ne _ _ hQ,by rw [h1,h2]; exact trivial,fun _ _ _=>SameShape.refl _⟩
  ·have h1:=hh.oth j hQ hK hR
   exact .inr ⟨by rw [h1]; exact hj,upd_ne _ _ hQ,by rw [h1]; exact SameKind.refl hj,fun _ _ _=>SameShape.refl _⟩
theorem Birth.den {off:Nat} (h:HSt P w0 I0 W0 C ids w) (hh:Birth C C' Q K R) {x y:SV} {v:Value} (hr:x = y∨(x = .ptr K off∧y = .ptr Q off)) (hd:Den P C ids (Im w0 I0 W0 C ids w) w x v):Den P C' (upd ids Q (ids K)) (Im w0 I0 W0 C' (upd ids Q (ids K)) w) w y v:=by
 rcases hr with rfl | ⟨rfl,rfl⟩
 ·exact hd.mono (hh.ext h)
 ·obtain ⟨b,o,g1,rfl⟩:=den_ptr hd hh.kl
  exact .ptr b o (by rw [hh.q]; exact hh.kl) (by rw [upd_same]; exact g1)
theorem Birth.st (h:HSt P w0 I0 W0 C ids w) (hh:Birth C C' Q K R):HSt P w0 I0 W0 C' (upd ids Q (ids K)) w:=by
 have hE:=hh.ext h
 refine ⟨fun j=>?_,fun k k' b o o' hk hk' hi hi'=>?_,fun k b o hk hi=>?_,h.im0,h.evol,h.os,h.tape,h.output,h.size⟩
 ·by_cases hQ:j = Q
  ·subst hQ; rw [hh.q]; exact DenC.rename hE (h.ch K) (upd_same _ _ _)
  by_cases hK:j = K
  ·subst hK; rw [hh.k]; trivial
  by_cases hR:j = R
  ·subst hR
   have hc:=h.ch j
   rcases hh.row with ⟨e,cs,cs',h1,h2,h3,h4⟩ | ⟨es,es',h1,h2,h3,h4⟩
   ·rw [h1] at hc
    rw [h2]
    simp only [DenC,upd_ne _ _ hQ] at hc ⊢
    cases hid:ids j with
    | none =>
     rw [hid] at hc
     simp only at hc
     subst hc
     exact List.eq_nil_of_length_eq_zero h3
    | some p =>
     obtain ⟨b,o⟩:=p
     rw [hid] at hc
     obtain ⟨arr,ha,hl,hxx⟩:=hc
     refine ⟨arr,ha,by omega,fun i y hi=>?_⟩
     have hlt:=(List.getElem?_eq_some_iff.1 hi).1
     have hi2:=List.getElem?_eq_getElem (show i < cs.length by omega)
     exact hh.den h (h4 i _ y hi2 hi) (hxx i _ hi2)
   ·rw [h1] at hc
    rw [h2]
    simp only [DenC,upd_ne _ _ hQ] at hc ⊢
    obtain ⟨b,arr,clock,g1,g2,g3,g4,hbo⟩:=hc
    refine ⟨b,arr,clock,g1,g2,by omega,fun i y hi=>?_,hbo⟩
    have hlt:=(List.getElem?_eq_some_iff.1 hi).1
    have hi2:=List.getElem?_eq_getElem (show i < es.length by omega)
    obtain ⟨a1,a2⟩:=h4 i _ y hi2 hi
    obtain ⟨b1,b2⟩:=g4 i _ hi2
    exact ⟨b1.trans a1,hh.den h a2 b2⟩
  ·rw [hh.oth j hQ hK hR]; exact DenC.rename hE (h.ch j) (upd_ne _ _ hQ)
 ·obtain ⟨k0,a1,a2,a3⟩:=hh.old hk hi
  obtain ⟨k0',b1,b2,b3⟩:=hh.old hk' hi'
  have:=h.inj k0 k0' b o o' a1 b1 a2 b2
  subst this
  rcases a3 with ⟨_,a3,a4⟩ | ⟨a3,a4⟩ <;> rcases b3 with ⟨_,b3,b4⟩ | ⟨b3,b4⟩
  ·rw [← a3,← b3]
  ·rw [← a3] at a4; exact absurd b4 a4
  ·rw [← b3] at b4; exact absurd a4 b4
  ·rw [a3,b3]
 ·obtain ⟨k0,a1,a2,_⟩:=hh.old hk hi
  exact h.lt k0 b o a1 a2
end sem
theorem heap_birth {X:Cx} {hp hp':Hp} {ids:Ids} {w:World} {Q K R:Nm} (h:HeapC X hp ids w) (hh:Birth (getH hp) (getH hp') Q K R):HeapC X hp' (upd ids Q (ids K)) w∧ExtX X hp ids w hp' (upd ids Q (ids K)) w:=by
 have hE:=hh.ext h.st
 refine ⟨⟨hh.st h.st,fun j hj h0 hl=>?_,fun j hj hv=>?_⟩,hE⟩
 ·by_cases hQ:j = Q
  ·subst hQ; exact absurd (h.nov j hj hh.vd) h0
  by_cases hK:j = K
  ·subst hK; rw [hh.k] at hl; cases hl
  have hlo:(getH hp j).live = true:=by
   by_cases hR:j = R
   ·subst hR; exact hh.liveR.1
   ·rw [← hh.oth j hQ hK hR]; exact hl
  exact (h.kept j hj h0 hlo).step hE hlo hl
 ·by_cases hQ:j = Q
  ·subst hQ; have:=hh.kl; rw [← hh.q,hv] at this; cases this
  by_cases hK:j = K
  ·subst hK; rw [hh.k] at hv; cases hv
  by_cases hR:j = R
  ·subst hR; have:=hh.liveR.2; rw [hv] at this; cases this
  ·exact h.nov j hj (by rw [← hh.oth j hQ hK hR]; exact hv)
theorem famP_fam {hin:Hp} {t:TypeId} {xs:List α} {F F':Nat} (h1:getE hin (.s F' 0) = .fam (famP t xs)) (h2:getE hp (.s F 0) = .fam (famP t xs)) (i:Int):(getH hin (.s F' i)).live = true∨(getH hin (.s F' i) = .dead∧getH hp (.s F i) = .dead)∨(getH hin (.s F' i) = .void∧getH hp (.s F i) = .void):=by
 rw [getE_fam h1 i,getE_fam h2 i,at_famP]
 by_cases kk:0≤i∧i < (xs.length:Int)
 ·rw [famP_in kk]; exact .inl rfl
 ·rw [famP_out kk]; exact .inr (.inr ⟨rfl,rfl⟩)
theorem famP_live {t:TypeId} {xs:List α} {i:Int} (k:0≤i∧i < (xs.length:Int)):((Chunk.fam (famP t xs)).at i).live = true:=by rw [famP_mem k]; rfl
def lenP (c:Chunk) (m:Nat):Prop:=∀ i:Nat,i < m→(c.at ((i:Nat):Int)).live = true
theorem lenP_famP (t:TypeId) (xs:List α) (m:Nat):lenP (.fam (famP t xs)) m = (m≤xs.length):=by
 refine propext ⟨fun h=>?_,fun h i hi=>famP_live (by omega)⟩
 by_cases hm:m≤xs.length
 ·exact hm
 ·have:=h xs.length (by omega)
  rw [at_famP,famP_out (by omega)] at this
  cases this
theorem lenP_same (t:TypeId) (xs:List α):lenP (.fam (famP t xs)) xs.length = True:=eq_true (by rw [lenP_famP]; exact Nat.le_refl _)
theorem lenP_one (t:TypeId) (x:α):lenP (.fam (famP t [x])) 1 = True:=eq_true (by rw [lenP_famP]; exact Nat.le_refl _)
theorem lenP_app (t:TypeId) (xs:List α) (x:α):lenP (.fam (famP t (xs++[x]))) (xs.length+1) = True:=eq_true (by rw [lenP_famP]; simp)
theorem lenP_set (t:TypeId) (xs:List α) (i:Nat) (x:α):lenP (.fam (famP t (xs.set i x))) xs.length = True:=eq_true (by rw [lenP_famP]; simp)
theorem leL_flP {F F':Nat} {n m:Nat} (h:n = m∧getN σ (.s F' 0) = some (.s F 0)∧lenP (getE hp' (.s F' 0)) m):leL hp hp' σ frz (flP F n) (flP F' m) = True:=by
 obtain ⟨rfl,h1,h2⟩:=h
 refine eq_true (leL_pw ?_)
 have gen:∀ l:List Nat,(∀ i ∈ l,i < n)→Pw (leS hp hp' σ frz) (l.map fun (i:Nat)=>SV.ptr (.s F ((i:Nat):Int)) 0) (l.map fun (i:Nat)=>SV.ptr (.s F' ((i:Nat):Int)) 0):=by
  intro l
  induction l with
  | nil=>intro _; trivial
  | cons a l ih =>
   intro hl
   refine ⟨?_,ih fun i hi=>hl i (by simp [hi])⟩
   have ha:=hl a (by simp)
   simp only [leS]
   refine ⟨getN_s h1 _,trivial,?_⟩
   have h3:=h2 a ha
   cases hg:getE hp' (.s F' 0) with
   | fam g=>rw [getE_fam hg]; rw [hg] at h3; exact h3
   | _=>rw [hg] at h3; cases h3
 exact gen _ fun i hi=>by simpa using hi
theorem leC1_famP {t:TypeId} {xs:List α} {F':Nat} {i:Int} (h:famLe hp σ F' (famP t xs)):leC1 hp hp' σ frz (.s F' i) (famP t xs i) = True:=by
 refine eq_true ?_
 unfold famLe at h
 cases hn:getN σ (.s F' 0) with
 | none=>rw [hn] at h; exact h.elim
 | some k =>
  rw [hn] at h
  simp only at h
  have hs:getN σ (.s F' i) = some (.s k.base i):=by rw [getN_sig σ F' i,hn]; rfl
  have hg:=getE_fam h i
  rw [at_famP] at hg
  by_cases kk:0≤i∧i < (xs.length:Int)
  ·rw [famP_in kk] at hg ⊢
   simp only [leC1,hs,hg]
   exact ⟨trivial,.inl ⟨Enc.stc _,trivial⟩⟩
  ·rw [famP_out kk] at hg ⊢
   simp only [leC1,hs,hg]
theorem ren_famP (τ:Nm→Nm) (t:TypeId) (xs:List α) (i:Int):renC τ (famP t xs i) = famP t xs i:=by
 by_cases kk:0≤i∧i < (xs.length:Int)
 ·rw [famP_in kk]; simp only [renC]; rw [renL_cl (stL_clL (Enc.stc _))]
 ·rw [famP_out kk]; rfl
theorem renL_flP (F n:Nat):renL (bck (getN σ) nx) (flP F n) = flP (bck (getN σ) nx (.s F 0)).base n:=by
 unfold flP
 rw [renL_map,List.map_map]
 refine List.map_congr_left fun i _=>?_
 simp only [Function.comp,renS]
 rw [bck_s (getN_sig σ)]
theorem famG_P (t:TypeId) (xs:List α) (G:Nat) (z:Int) (r:Hp) (F:Nat):famG ((.s G z,.fam (famP t xs))::r) F = bif G == F then famP t xs else famG r F:=by
 funext q
 simp only [famG,getH,Nm.eqk]
 cases G == F with
 | true=>simp only [cond_true,Chunk.mem]; exact at_famP t xs q
 | false=>rfl
theorem leC_famP {t:TypeId} {xs:List α} {F':Nat} {z:Int} (h:famLe hp σ F' (famP t xs)):leC hp hp' σ frz (.s F' z) (.fam (famP t xs)) = True:=by
 refine eq_true fun i=>?_
 rw [at_famP]
 exact of_eq_true (leC1_famP h)
theorem famLe_P (F':Nat) (t:TypeId) (xs:List α):famLe hp σ F' (famP t xs) = match getN σ (.s F' 0) with
 | some k=>getE hp (.s k.base 0) = .fam (famP t xs)
 | none=>False:=propext Iff.rfl
theorem leH_cons (k:Nm) (c:Chunk) (r:Hp):leH hp hp' σ frz ((k,c)::r) = (leC hp hp' σ frz k c∧leH hp hp' σ frz r):=propext Iff.rfl
def noN (σ:List (Nm×Nm)) (F:Nat):Prop:=getN σ (.s F 0) = none
theorem noN_eq (σ:List (Nm×Nm)) (F:Nat):noN σ F = (getN σ (.s F 0) = none):=propext Iff.rfl
theorem leC_famP0 {t:TypeId} {F':Nat} {z:Int} (h:noN σ F'):leC hp hp' σ frz (.s F' z) (.fam (famP t ([]:List α))) = True:=by
 refine eq_true fun i=>?_
 have h:getN σ (.s F' 0) = none:=h
 rw [at_famP,famP_out (by simp <;> omega)]
 have:getN σ (.s F' i) = none:=by rw [getN_sig σ F' i,h]; rfl
 simp only [leC1,this]
theorem flP_0 (F:Nat):flP F 0 = []:=rfl
attribute [push_cast high] leC_famP leC_famP0 leH_cons
attribute [push_cast] noN_eq lenP_same lenP_one lenP_app lenP_set flP_0 ren_famP renL_flP famG_P at_famP famLe_P
end Go.Sx
end

section
namespace Go.Sx
open Go.RowKit
set_option linter.unusedVariables false
set_option linter.unusedSimpArgs false
variable {α:Type} [Enc α] {P:Program} {hp hp':Hp} {nx:Nat} {σ:List (Nm×Nm)} {frz:List Nm}
def mpG (F:Nat):Nat→List Int→List (Value×SV)
 | _,[]=>[]
 | n,k::r=>(.int .i64 k,.ptr (.s F (n:Int)) 0)::mpG F (n+1) r
def mpP (F:Nat) (ks:List Int):List (Value×SV):=mpG F 0 ks
def kHas (ks:List Int) (k:Int):Bool:=ks.any fun a=>k == a
def kAt (ks:List Int) (k:Int):Int:=((ks.findIdx (fun a=>k == a):Nat):Int)
theorem mpG_length (F:Nat):∀ (n:Nat) (ks:List Int),(mpG F n ks).length = ks.length
 | _,[]=>rfl
 | n,k::r=>by simp [mpG,mpG_length F (n+1) r]
theorem mpP_length (F:Nat) (ks:List Int):(mpP F ks).length = ks.length:=mpG_length F 0 ks
theorem mpG_app (F:Nat) (k:Int):∀ (n:Nat) (ks:List Int),mpG F n (ks++[k]) = mpG F n ks++[(.int .i64 k,.ptr (.s F ((n+ks.length:Nat):Int)) 0)]
 | n,[]=>by simp [mpG]
 | n,a::r=>by
  rw [List.cons_append,mpG,mpG_app F k (n+1) r,mpG,List.cons_append,List.length_cons,show n+1+r.length = n+(r.length+1) from by omega]
theorem mpP_app (F:Nat) (ks:List Int) (k:Int):mpP F (ks++[k]) = mpP F ks++[(.int .i64 k,.ptr (.s F (ks.length:Int)) 0)]:=by
 have:=mpG_app F k 0 ks
 rwa [Nat.zero_add] at this
theorem mpG_alike (F:Nat) (k:Int):∀ (n:Nat) (ks:List Int),(mpG F n ks).all (fun p=>keyAlike (.int .i64 k) p.1) = true
 | _,[]=>rfl
 | n,a::r=>by simp only [mpG,List.all_cons,mpG_alike F k (n+1) r,Bool.and_true]; simp [keyAlike]
theorem mpP_alike (F:Nat) (ks:List Int) (k:Int):(mpP F ks).all (fun p=>keyAlike (.int .i64 k) p.1) = true:=mpG_alike F k 0 ks
theorem mpG_find (F:Nat) (k:Int):∀ (n:Nat) (ks:List Int) (i:Nat),findS (.int .i64 k) (mpG F n ks) i = bif kHas ks k then some (i+ks.findIdx (fun a=>k == a),.ptr (.s F ((n+ks.findIdx (fun a=>k == a):Nat):Int)) 0) else none
 | _,[],i=>rfl
 | n,a::r,i=>by
  rw [mpG,findS,keyEq_int,List.findIdx_cons]
  unfold kHas
  rw [List.any_cons]
  cases h:k == a with
  | true=>simp
  | false =>
   have:=mpG_find F k (n+1) r (i+1)
   unfold kHas at this
   simp only [cond_false,this,Bool.false_or]
   cases (r.any fun a=>k == a) with
   | false=>rfl
   | true =>
    simp only [cond_true]
    rw [show i+1+List.findIdx (fun a=>k == a) r = i+(List.findIdx (fun a=>k == a) r+1) from by omega,show n+1+List.findIdx (fun a=>k == a) r = n+(List.findIdx (fun a=>k == a) r+1) from by omega]
theorem mpP_find (F:Nat) (ks:List Int) (k:Int):findS (.int .i64 k) (mpP F ks) 0 = bif kHas ks k then some (ks.findIdx (fun a=>k == a),.ptr (.s F (kAt ks k)) 0) else none:=by
 have:=mpG_find F k 0 ks 0
 rw [Nat.zero_add] at this
 exact this
theorem mpP_look {F:Nat} {ks:List Int} {k:Int} (h:kHas ks k = true) (z:Value):lookV z (.int .i64 k) (mpP F ks) = .ptr (.s F (kAt ks k)) 0:=by
 unfold lookV; rw [mpP_find,h]; rfl
theorem mpP_none {F:Nat} {ks:List Int} {k:Int} (h:kHas ks k = false) (z:Value):lookV z (.int .i64 k) (mpP F ks) = .v z:=by
 unfold lookV; rw [mpP_find,h]; rfl
theorem find_app (k:Value):∀ (es fs:List (Value×SV)) (i:Nat),findS k (es++fs) i = match findS k es i with | some p=>some p | none=>findS k fs (i+es.length)
 | [],fs,i=>by simp [findS]
 | p::r,fs,i=>by
  rw [List.cons_append,findS,findS]
  cases keyEq k p.1 with
  | true=>rfl
  | false =>
   simp only [cond_false,find_app k r fs (i+1),List.length_cons]
   rw [show i+1+r.length = i+(r.length+1) from by omega]
theorem mpP_look1 {F:Nat} {ks:List Int} {k:Int} (h:kHas ks k = false) (z:Value) (v:SV):lookV z (.int .i64 k) (mpP F ks++[(.int .i64 k,v)]) = v:=by
 unfold lookV
 rw [find_app,mpP_find,h]
 simp [findS,keyEq_int]
theorem mpP_new {F:Nat} {ks:List Int} {k:Int} (h:kHas ks k = false) (v:SV):updL (.int .i64 k) v (mpP F ks) = mpP F ks++[(.int .i64 k,v)]:=by
 unfold updL; rw [mpP_find,h]; rfl
theorem ob_look0 (d:TypeDesc) (hd:keyOk d (.int .i64 0) = true) (z:Value) (k:Int) (es:List (Value×SV)) (v:SV) (hal:es.all (fun p=>keyAlike (.int .i64 k) p.1) = true) (h:lookV z (.int .i64 k) es = v) (kk:Nm) (nx:Nat) :
  resOb (.ok (keyOk d (.int .i64 k) = true∧es.all (fun p=>keyAlike (.int .i64 k) p.1) = true) ⟨lookV z (.int .i64 k) es,[],nx,[kk.key]⟩) ⟨v,[],nx,[kk.key]⟩:=ob_ok ⟨hd,hal⟩ h rfl
theorem ob_mset0 (d:TypeDesc) (hd:keyOk d (.int .i64 0) = true) (k:Int) (v:SV) (es es':List (Value×SV)) (hal:es.all (fun p=>keyAlike (.int .i64 k) p.1) = true) (h:updL (.int .i64 k) v es = es') (kk:Nat) (nx:Nat) :
  resOb (.ok (keyOk d (.int .i64 k) = true∧es.all (fun p=>keyAlike (.int .i64 k) p.1) = true) ⟨.any,[(Nm.t kk,.map (updL (.int .i64 k) v es))],nx,[Nm.t kk]⟩) ⟨.any,[(Nm.t kk,.map es')],nx,[Nm.t kk]⟩:=ob_ok ⟨hd,hal⟩ rfl (by rw [h])
theorem mpP_alike1 (F:Nat) (ks:List Int) (k j:Int) (v:SV):(mpP F ks++[(Value.int .i64 j,v)]).all (fun p=>keyAlike (.int .i64 k) p.1) = true:=by
 rw [List.all_append,mpP_alike]; simp [keyAlike]
theorem birth_M {t:TypeId} {xs:List α} {y:α} {r k F:Nat} {ks:List Int} {q:Int} (hR:getH hp (.t r) = .map (mpP F ks++[(.int .i64 q,.ptr (.t k) 0)])) (hF:getE hp (.s F 0) = .fam (famP t xs)) (hk:getH hp (.t k) = .row t (Enc.cells y)) (hb:(!(k == r)) = true) (hl:ks.length = xs.length) :
  Birth (getH hp) (getH ([(.s F 0,.fam (famP t (xs++[y]))),(.t r,.map (mpP F (ks++[q]))),(.t k,.dead)]++hp)) (.s F (xs.length:Int)) (.t k) (.t r):=by
 simp only [Bool.not_eq_true',beq_eq_false_iff_ne] at hb
 have hFi:∀ i,getH hp (.s F i) = famP t xs i:=fun i=>by rw [getE_fam hF i,at_famP]
 have hlen:(xs++[y]).length = xs.length+1:=by simp
 have lookG:∀ i,getH ([(.s F 0,.fam (famP t (xs++[y]))),(.t r,.map (mpP F (ks++[q]))),(.t k,.dead)]++hp) (.s F i) = famP t (xs++[y]) i:=fun i=>by
  simp only [List.cons_append,getH,Nm.eqk,beq_self_eq_true,cond_true,Chunk.mem]; exact at_famP t (xs++[y]) i
 have lookR:getH ([(.s F 0,.fam (famP t (xs++[y]))),(.t r,.map (mpP F (ks++[q]))),(.t k,.dead)]++hp) (.t r) = .map (mpP F (ks++[q])):=by
  simp [getH,Nm.eqk,Chunk.mem]
 have lookK:getH ([(.s F 0,.fam (famP t (xs++[y]))),(.t r,.map (mpP F (ks++[q]))),(.t k,.dead)]++hp) (.t k) = .dead:=by
  have:(r == k) = false:=by simpa using fun e=>hb e.symm
  simp [getH,Nm.eqk,Chunk.mem,this]
 refine ⟨?_,by rw [hk]; rfl,?_,lookK,fun j hQ hK hR2=>?_,by simpa using hb,.inr ?_⟩
 ·rw [hFi,famP_out (by omega)]
 ·rw [lookG,hk,famP_in (by rw [hlen]; omega)]
  have:ix (xs++[y]) (xs.length:Int) = y:=by unfold ix; simp
  rw [this]
 ·by_cases hF2:∃ i,j = .s F i
  ·obtain ⟨i,rfl⟩:=hF2
   rw [lookG,hFi]
   have hi:i≠(xs.length:Int):=fun e=>hQ (by rw [e])
   by_cases kk:0≤i∧i < (xs.length:Int)
   ·rw [famP_in kk,famP_in (xs:=xs++[y]) (by rw [hlen]; omega)]
    have:ix (xs++[y]) i = ix xs i:=by unfold ix; rw [List.getD_eq_getElem?_getD,List.getD_eq_getElem?_getD,List.getElem?_append_left (by omega)]
    rw [this]
   ·rw [famP_out kk,famP_out (xs:=xs++[y]) (by rw [hlen]; omega)]
  ·refine getH_app_ne fun hm=>?_
   simp only [List.map_cons,List.map_nil,List.mem_cons,List.not_mem_nil,or_false] at hm
   rcases hm with hm | hm | hm
   ·cases j with
    | t a=>simp [Nm.key] at hm
    | s G z=>simp only [Nm.key_s,Nm.s.injEq,and_true] at hm; exact hF2 ⟨z,by rw [hm]⟩
   ·exact hR2 (by rw [Nm.key_t] at hm; exact Nm.key_eq_t.1 hm)
   ·exact hK (by rw [Nm.key_t] at hm; exact Nm.key_eq_t.1 hm)
 ·refine ⟨_,_,hR,lookR,by simp only [List.length_append,mpP_length,List.length_cons,List.length_nil],fun i x z hx hz=>?_⟩
  rw [mpP_app] at hz
  by_cases hil:i < ks.length
  ·rw [List.getElem?_append_left (by rw [mpP_length]; exact hil)] at hx hz
   rw [hx] at hz; cases hz
   exact ⟨rfl,.inl rfl⟩
  ·have h2:=(List.getElem?_eq_some_iff.1 hx).1
   rw [List.length_append,mpP_length] at h2
   have he:i = ks.length:=by simp at h2; omega
   subst he
   rw [List.getElem?_append_right (by rw [mpP_length]; exact Nat.le_refl _),mpP_length,Nat.sub_self] at hx hz
   simp only [List.getElem?_cons_zero,Option.some.injEq] at hx hz
   subst hx; subst hz
   exact ⟨rfl,.inr ⟨rfl,by rw [hl]⟩⟩
def rePtr (k:Nat) (Q:Nm):SV→SV
 | .ptr j off=>bif j == .t k then .ptr Q off else .ptr j off
 | x=>x
def reFr (k:Nat) (Q:Nm) (fr:Fr):Fr:=fr.map fun p=>(p.1,rePtr k Q p.2)
theorem getF_reFr (k:Nat) (Q:Nm):∀ (fr:Fr) (d:Nat),getF (reFr k Q fr) d = rePtr k Q (getF fr d)
 | [],d=>rfl
 | p::r,d=>by
  simp only [reFr,List.map_cons,getF]
  cases p.1 == d with
  | true=>rfl
  | false=>simp only [cond_false]; exact getF_reFr k Q r d
theorem gh_M {m:Nat} {t:TypeId} {xs:List α} {y:α} {r k F:Nat} {ks:List Int} {q:Int} {fr fr':Fr} (hR:getH hp (.t r) = .map (mpP F ks++[(.int .i64 q,.ptr (.t k) 0)])) (hF:getE hp (.s F 0) = .fam (famP t xs)) (hk:getH hp (.t k) = .row t (Enc.cells y)) (hb:(!(k == r)) = true) (hl:ks.length = xs.length)
  (hbl:(Nat.blt r nx,Nat.blt k nx,Nat.blt F nx,reFr k (.s F (xs.length:Int)) fr) = (true,true,true,fr')):GhW P m fr hp nx fr' ([(.s F 0,.fam (famP t (xs++[y]))),(.t r,.map (mpP F (ks++[q]))),(.t k,.dead)]++hp) nx:=by
 simp only [Prod.mk.injEq,Nat.blt_eq] at hbl
 obtain ⟨b1,b2,b3,rfl⟩:=hbl
 intro X N a w hP hm ⟨ids,hH,hFr,hN,hD⟩
 have hh:=birth_M hR hF hk hb hl
 obtain ⟨h1,h2⟩:=heap_birth hH.toHeapC hh
 refine ⟨_,⟨h1,fun j hj=>?_,hH.m_le⟩,fun d=>?_,hN,hD⟩
 ·rw [getH_app_ne]
  ·exact hH.fresh j hj
  ·intro hm
   obtain ⟨p,hp1,hpk⟩:=List.mem_map.1 hm
   have hb:p.1.base = j.base:=by rw [← Nm.key_base,hpk,Nm.key_base]
   simp only [List.mem_cons,List.not_mem_nil,or_false] at hp1
   rcases hp1 with rfl | rfl | rfl <;> simp at hb <;> omega
 ·rw [getF_reFr]
  have hd:=hFr d
  cases hg:getF fr d with
  | ptr j off =>
   simp only [rePtr]
   rw [hg] at hd
   by_cases hj:j = .t k
   ·subst hj
    simp only [beq_self_eq_true,cond_true]
    exact hh.den hH.st (.inr ⟨rfl,rfl⟩) hd
   ·rw [show (j == Nm.t k) = false from by simpa using hj,cond_false]
    exact hd.mono h2
  | _=>rw [hg] at hd; exact hd.mono h2
theorem wk_gh2 {m:Nat} {K:Fr→Hp→Nat→Prop} {fr:Fr} (fr':Fr) (hp':Hp) (nx':Nat) (hg:GhW P m fr hp nx fr' hp' nx') (h:Wk P m K fr' hp' nx'):Wk P m K fr hp nx:=by
 rcases h with h | ⟨f2,h2,n2,g2,h⟩
 ·exact .inr ⟨fr',hp',nx',hg,h⟩
 ·exact .inr ⟨f2,h2,n2,hg.trans g2,h⟩
theorem gh_MM {m:Nat} {t:TypeId} {xs:List α} {y:α} {r k F:Nat} {ks:List Int} {q:Int} {fr:Fr} (fr':Fr) (hp':Hp) (hR:getH hp (.t r) = .map (mpP F ks++[(.int .i64 q,.ptr (.t k) 0)])) (hF:getE hp (.s F 0) = .fam (famP t xs)) (hk:getH hp (.t k) = .row t (Enc.cells y)) (hb:(!(k == r)) = true) (hl:ks.length = xs.length)
  (hbl:(Nat.blt r nx,Nat.blt k nx,Nat.blt F nx,keepF (reFr k (.s F (xs.length:Int)) fr) fr',keepH ([(.s F 0,.fam (famP t (xs++[y]))),(.t r,.map (mpP F (ks++[q]))),(.t k,.dead)]++hp) hp',coverH ([(.s F 0,.fam (famP t (xs++[y]))),(.t r,.map (mpP F (ks++[q]))),(.t k,.dead)]++hp) hp') = (true,true,true,fr',hp',true)):GhW P m fr hp nx fr' hp' nx:=by
 simp only [Prod.mk.injEq] at hbl
 obtain ⟨b1,b2,b3,b4,b5,b6⟩:=hbl
 refine (gh_M hR hF hk hb hl (by rw [b1,b2,b3])).trans fun X N a w _ _ h=>h.eqSt (keep_eq b4 b5 b6)
theorem ghost_M0 (t:TypeId) (α:Type) [Enc α] {r:Nat} (hR:getH hp (.t r) = .map []) (hb:Nat.blt r nx = true):Ghost P nx 1 [.t r] hp [(.s nx 0,.fam (famP t ([]:List α))),(.t r,.map (mpP nx []))]:=by
 rw [Nat.blt_eq] at hb
 intro X ids w hp' hP hm h hrd hf
 have hRr:getH hp' (.t r) = .map []:=(hrd (.t r) (by simp)).trans hR
 have lookG:∀ i,getH ([(.s nx 0,.fam (famP t ([]:List α))),(.t r,.map (mpP nx []))]++hp') (.s nx i) = .void:=fun i=>by
  simp only [List.cons_append,getH,Nm.eqk,beq_self_eq_true,cond_true,Chunk.mem]; rw [at_famP,famP_out (by simp)]
 have lookO:∀ j,(∀ i,j≠.s nx i)→getH ([(.s nx 0,.fam (famP t ([]:List α))),(.t r,.map (mpP nx []))]++hp') j = getH hp' j:=fun j hj=>by
  by_cases hr:j = .t r
  ·subst hr
   rw [hRr]
   simp [getH,Nm.eqk,Chunk.mem,mpP,mpG]
  ·refine getH_app_ne fun hm=>?_
   simp only [List.map_cons,List.map_nil,List.mem_cons,List.not_mem_nil,or_false] at hm
   rcases hm with hm | hm
   ·cases j with
    | t a=>simp [Nm.key] at hm
    | s G z=>simp only [Nm.key_s,Nm.s.injEq,and_true] at hm; exact hj z (by rw [hm])
   ·exact hr (by rw [Nm.key_t] at hm; exact Nm.key_eq_t.1 hm)
 have lv:∀ j,(getH ([(.s nx 0,.fam (famP t ([]:List α))),(.t r,.map (mpP nx []))]++hp') j).live = true→(∀ i,j≠.s nx i):=fun j hl i e=>by
  subst e; rw [lookG] at hl; cases hl
 have ub:∀ i,getH hp' (.s nx i) = .unborn:=fun i=>hf (.s nx i) (Nat.le_refl _) (by simp)
 have hE:ExtX X hp' ids w ([(.s nx 0,.fam (famP t ([]:List α))),(.t r,.map (mpP nx []))]++hp') ids w:=by
  refine ⟨fun b hb=>⟨⟨hb.1,hb.2.1,fun k hk o hi=>?_⟩,rfl⟩,fun j hj=>?_,fun j hj=>?_⟩
  ·have:=lv k hk
   rw [lookO k this] at hk
   exact hb.2.2 k hk o hi
  ·rw [lookO j fun i e=>by subst e; rw [ub] at hj; cases hj]; exact hj
  ·have:=lookO j fun i e=>by subst e; rw [ub] at hj; cases hj
   exact .inr ⟨by rw [this]; exact hj,rfl,by rw [this]; exact SameKind.refl hj,fun _ _ _=>SameShape.refl _⟩
 refine ⟨ids,⟨⟨fun j=>?_,fun k k' b o o' hk hk' hi hi'=>?_,fun k b o hk hi=>?_,h.st.im0,h.st.evol,h.st.os,h.st.tape,h.st.output,h.st.size⟩,fun j hj h0 hl=>?_,fun j hj hv=>?_⟩,hE⟩
 ·by_cases hj:∃ i,j = .s nx i
  ·obtain ⟨i,rfl⟩:=hj
   rw [lookG]; trivial
  ·rw [lookO j fun i e=>hj ⟨i,e⟩]
   exact DenC.mono hE (h.st.ch j) rfl (fun _ _ _=>rfl)
 ·have e1:=lookO k (lv k hk); have e2:=lookO k' (lv k' hk')
  rw [e1] at hk; rw [e2] at hk'
  exact h.st.inj k k' b o o' hk hk' hi hi'
 ·rw [lookO k (lv k hk)] at hk
  exact h.st.lt k b o hk hi
 ·have e1:=lookO j (lv j hl)
  rw [e1] at hl
  exact (h.kept j hj h0 hl).step hE hl (by rw [e1]; exact hl)
 ·refine h.nov j hj ?_
  rw [← lookO j fun i e=>by subst e; simp at hj; omega]; exact hv
section arr
variable {n:Nat}
theorem osOf_arr (a:VArr n) (r:List DL):osOf ((Enc.cells a).map DL.p++r) = osOf r:=by
 induction Enc.cells a with
 | nil=>rfl
 | cons x l ih=>simpa only [List.map_cons,List.cons_append,osOf] using ih
theorem okD_arr (a:VArr n) (r:List DL):((Enc.cells a).map DL.p++r).all DL.ok = r.all DL.ok:=by
 show ((a.cells).map DL.p++r).all DL.ok = _
 rw [VArr.cells_fl]
 induction a.l with
 | nil=>rfl
 | cons x l ih=>simp only [List.map_cons,List.cons_append,List.all_cons,ih]; rfl
theorem flat_arr (a:VArr n) (r:List DL):((Enc.cells a).map DL.p++r).map DL.flat = Enc.cells a++r.map DL.flat:=by
 induction Enc.cells a with
 | nil=>rfl
 | cons x l ih=>simp only [List.map_cons,List.cons_append,ih]; rfl
theorem len_arr (a:VArr n) (r:List SV):(Enc.cells a++r).length = n+r.length:=by rw [List.length_append,VArr.len]
theorem one_arr (a:VArr n) (r:List SV):(Enc.cells a++r).all oneS = r.all oneS:=by
 rw [List.all_append,Enc.one,Bool.true_and]
end arr
theorem part_cut {α:Type} (l:List α) (a z q n:Nat) (h:q+n≤z):(l.drop (a+q)).take n = (((l.drop a).take z).drop q).take n:=by
 rw [List.drop_take,List.drop_drop,List.take_take,Nat.min_eq_left (by omega)]
omit [Enc α] in
theorem ob_ldpD [Enc α] (D:DE α) (Fs:List Nat) (xs:List α) (i:Int) (z q n off:Nat) (k:0≤i∧i < (xs.length:Int)) (hz:Enc.sz α = z) (hq:q+n≤z) (ho:off = i.toNat * z+q) (v:List SV) (hv:((dcs (fun j=>nF Fs j i) 0 (D.dl (ixD xs i))).drop q).take n = v) (nx:Nat) (rds:List Nm) :
  resOb (.ok (off+n≤(flD D Fs xs).length) ⟨.agg (((flD D Fs xs).drop off).take n),[],nx,rds⟩) ⟨.agg v,[],nx,rds⟩:=by
 subst hz
 have hlt:i.toNat < xs.length:=by omega
 have hle:(i.toNat+1) * Enc.sz α≤xs.length * Enc.sz α:=Nat.mul_le_mul_right _ hlt
 rw [Nat.add_mul] at hle
 refine ob_ok ?_ ?_ rfl
 ·rw [flD_length]; omega
 ·have:=flN_at D (nF Fs) xs 0 i.toNat hlt
  rw [Nat.zero_add,dec_i k.1] at this
  rw [ho,part_cut _ _ (Enc.sz α) q n hq]
  rw [ixD_pos k.1] at hv
  rw [← hv]
  exact congrArg (fun l=>SV.agg ((List.drop q l).take n)) this
theorem stM_mpP (F:Nat) (ks:List Int):stM (mpP F ks) = true→ks = []:=by
 cases ks with
 | nil=>exact fun _=>rfl
 | cons a r=>intro h; simp [mpP,mpG,stM,SV.st] at h
def mapLe (hp hp':Hp) (σ:List (Nm×Nm)) (k' F':Nat) (ks:List Int):Prop:=match getN σ (.t k'),getN σ (.s F' 0) with
 | some k,some j=>(getH hp k = .map (mpP j.base ks)∧j = .s j.base 0)∧lenP (getE hp' (.s F' 0)) ks.length
 | _,_=>False
theorem mapLe_eq (k' F':Nat) (ks:List Int):mapLe hp hp' σ k' F' ks = match getN σ (.t k'),getN σ (.s F' 0) with
 | some k,some j=>(getH hp k = .map (mpP j.base ks)∧j = .s j.base 0)∧lenP (getE hp' (.s F' 0)) ks.length
 | _,_=>False:=propext Iff.rfl
theorem leM_mpG {F F':Nat} (h1:getN σ (.s F' 0) = some (.s F 0)) (N:Nat) (h2:lenP (getE hp' (.s F' 0)) N):∀ (n:Nat) (ks:List Int),n+ks.length≤N→leM hp hp' σ frz (mpG F n ks) (mpG F' n ks)
 | _,[],_=>trivial
 | n,k::r,h=>by
  rw [List.length_cons] at h
  refine ⟨rfl,?_,leM_mpG h1 N h2 (n+1) r (by omega)⟩
  simp only [leS]
  refine ⟨getN_s h1 _,trivial,?_⟩
  have h3:=h2 n (by omega)
  cases hg:getE hp' (.s F' 0) with
  | fam g=>rw [getE_fam hg]; rw [hg] at h3; exact h3
  | _=>rw [hg] at h3; cases h3
theorem leC_mpP {k' F':Nat} {ks:List Int} (h:mapLe hp hp' σ k' F' ks):leC hp hp' σ frz (.t k') (.map (mpP F' ks)) = True:=by
 refine eq_true ?_
 unfold mapLe at h
 show leC1 hp hp' σ frz (.t k') (.map (mpP F' ks))
 simp only [leC1]
 cases hk:getN σ (.t k') with
 | none=>rw [hk] at h; exact h.elim
 | some k =>
  cases hj:getN σ (.s F' 0) with
  | none=>rw [hk,hj] at h; exact h.elim
  | some j =>
   rw [hk,hj] at h
   obtain ⟨⟨h1,h2⟩,h3⟩:=h
   simp only [h1]
   cases hs:stM (mpP F' ks) with
   | true =>
    have:=stM_mpP F' ks hs
    subst this
    rfl
   | false=>exact leM_mpG (by rw [hj,h2]; rfl) ks.length h3 0 ks (by omega)
theorem leM_app {hp hp':Hp}:∀ {xs ys us vs:List (Value×SV)},leM hp hp' σ frz xs ys→leM hp hp' σ frz us vs→leM hp hp' σ frz (xs++us) (ys++vs)
 | [],[],_,_,_,h=>h
 | [],_::_,_,_,h,_=>h.elim
 | _::_,[],_,_,h,_=>h.elim
 | a::r,b::s,_,_,h,g=>⟨h.1,h.2.1,leM_app h.2.2 g⟩
def mapLe1 (hp hp':Hp) (σ:List (Nm×Nm)) (k' F' j':Nat) (ks:List Int) (q:Int):Prop:=match getN σ (.t k'),getN σ (.s F' 0),getN σ (.t j') with
 | some k,some j,some i=>(getH hp k = .map (mpP j.base ks++[(.int .i64 q,.ptr i 0)])∧j = .s j.base 0)∧lenP (getE hp' (.s F' 0)) ks.length∧(getH hp' (.t j')).live = true
 | _,_,_=>False
theorem mapLe1_eq (k' F' j':Nat) (ks:List Int) (q:Int):mapLe1 hp hp' σ k' F' j' ks q = match getN σ (.t k'),getN σ (.s F' 0),getN σ (.t j') with
 | some k,some j,some i=>(getH hp k = .map (mpP j.base ks++[(.int .i64 q,.ptr i 0)])∧j = .s j.base 0)∧lenP (getE hp' (.s F' 0)) ks.length∧(getH hp' (.t j')).live = true
 | _,_,_=>False:=propext Iff.rfl
theorem leC_mpP1 {k' F' j':Nat} {ks:List Int} {q:Int} (h:mapLe1 hp hp' σ k' F' j' ks q):leC hp hp' σ frz (.t k') (.map (mpP F' ks++[(.int .i64 q,.ptr (.t j') 0)])) = True:=by
 refine eq_true ?_
 unfold mapLe1 at h
 show leC1 hp hp' σ frz (.t k') (.map (mpP F' ks++[(.int .i64 q,.ptr (.t j') 0)]))
 simp only [leC1]
 cases hk:getN σ (.t k') with
 | none=>rw [hk] at h; exact h.elim
 | some k =>
  cases hj:getN σ (.s F' 0) with
  | none=>rw [hk,hj] at h; exact h.elim
  | some j =>
   cases hi:getN σ (.t j') with
   | none=>rw [hk,hj,hi] at h; exact h.elim
   | some i =>
    rw [hk,hj,hi] at h
    obtain ⟨⟨h1,h2⟩,h3,h4⟩:=h
    simp only [h1]
    have hs:stM (mpP F' ks++[(Value.int .i64 q,SV.ptr (.t j') 0)]) = false:=by
     induction mpP F' ks with
     | nil=>rfl
     | cons a l ih=>simp only [List.cons_append,stM,ih,Bool.and_false]
    rw [hs,cond_false]
    refine leM_app (leM_mpG (by rw [hj,h2]; rfl) ks.length h3 0 ks (by omega)) ⟨rfl,?_,trivial⟩
    simp only [leS]
    exact ⟨hi,trivial,h4⟩
theorem ren_mpG (τ:Nm→Nm) (F F':Nat) (h:∀ i,τ (.s F i) = .s F' i):∀ (n:Nat) (ks:List Int),(mpG F n ks).map (fun p=>(p.1,renS τ p.2)) = mpG F' n ks
 | _,[]=>rfl
 | n,k::r=>by simp only [mpG,List.map_cons,renS,h,ren_mpG τ F F' h (n+1) r]
theorem ren_mpP (F:Nat) (ks:List Int):renC (bck (getN σ) nx) (.map (mpP F ks)) = .map (mpP (bck (getN σ) nx (.s F 0)).base ks):=by
 simp only [renC]
 congr 1
 exact ren_mpG _ _ _ (fun i=>bck_s (getN_sig σ) nx F i) 0 ks
theorem ren_mpP1 (F:Nat) (ks:List Int) (q:Int) (k:Nm):renC (bck (getN σ) nx) (.map (mpP F ks++[(.int .i64 q,.ptr k 0)])) = .map (mpP (bck (getN σ) nx (.s F 0)).base ks++[(.int .i64 q,.ptr (bck (getN σ) nx k) 0)]):=by
 simp only [renC,List.map_append,List.map_cons,List.map_nil,renS]
 congr 2
 exact ren_mpG _ _ _ (fun i=>bck_s (getN_sig σ) nx F i) 0 ks
attribute [push_cast high] leC_mpP leC_mpP1 ren_mpP ren_mpP1
attribute [push_cast] mapLe_eq mapLe1_eq
end Go.Sx
end

section
namespace Go.Sx
open Go.RowKit
set_option linter.unusedVariables false
set_option linter.unusedSimpArgs false
variable {P:Program} {X:Cx} {hp:Hp} {ids:Ids} {w:World}
theorem heap_on (h:HeapC X hp ids w) {w':World} (hz:w.heap.size≤w'.heap.size) (hb:∀ b,b < w.heap.size→w'.heap[b]? = w.heap[b]?) (h1:w'.os = w.os) (h2:w'.tape = w.tape) (h3:w'.output = w.output) (h4:DrOk w w') :
  HeapC X hp ids w'∧ExtX X hp ids w hp ids w':=by
 have hE:ExtX X hp ids w hp ids w':=by
  refine ⟨fun d hd=>?_,fun _ h=>h,fun k hl=>.inr ⟨hl,rfl,SameKind.refl hl,fun b o hid=>SameShape.of_eq (hb b (h.st.lt k b o hl hid).1)⟩⟩
  obtain ⟨a1,a2,a3⟩:=hd
  exact ⟨⟨a1,by omega,a3⟩,hb d a2⟩
 refine ⟨⟨⟨fun k=>?_,h.st.inj,fun k b o hl hid=>?_,h.st.im0,fun b hb0 hW=>?_,h1.trans h.st.os,⟨h2.trans h.st.tape.1,h.st.tape.2.trans h4⟩,h3.trans h.st.output,by have:=h.st.size; omega⟩,fun k hk h0 hl=>(h.kept k hk h0 hl).step hE hl hl,h.nov⟩,hE⟩
 ·by_cases hl:(getH hp k).live = true
  ·exact (h.st.ch k).mono hE rfl fun b o hid=>hb b (h.st.lt k b o hl hid).1
  ·cases hc:getH hp k with
   | unborn=>trivial
   | void=>trivial
   | dead=>trivial
   | fam g=>trivial
   | row e cs=>rw [hc] at hl; exact absurd rfl hl
   | map es=>rw [hc] at hl; exact absurd rfl hl
   | obj s p=>rw [hc] at hl; exact absurd rfl hl
 ·obtain ⟨a1,a2⟩:=h.st.lt k b o hl hid
  exact ⟨by omega,a2⟩
 ·rw [hb b (by have:=h.st.size; omega)]; exact h.st.evol b hb0 hW
end Go.Sx
end

section
namespace Go.Sx
open Go.RowKit
set_option linter.unusedVariables false
set_option linter.unusedSimpArgs false
variable {P:Program}
end Go.Sx
end

section
namespace Go.Sx
open Go.RowKit
set_option linter.unusedVariables false
set_option linter.unusedSimpArgs false
variable {P:Program}
theorem TabOk.on {I I':Nat→Prop} {w w':World} (h:TabOk P I w) (hI:∀ b,I b→I' b∧w'.heap[b]? = w.heap[b]?):TabOk P I' w':=fun g cs hc=>by
 obtain ⟨h1,⟨arr,te,tf,ha1,ha2⟩,h2⟩:=h g cs hc
 refine ⟨(hI g h1).1,⟨arr,te,tf,(hI g h1).2.trans ha1,ha2⟩,fun i x hi=>?_⟩
 obtain ⟨y,h3,h4⟩:=h2 i x hi
 exact ⟨y,(cell_eq (hI g h1).2).trans h3,h4.mono (fun b hb=>(hI b hb).1) fun b hb i=>cell_eq (hI b hb).2⟩
end Go.Sx
end

section
namespace Go.Sx
open Go.RowKit
set_option linter.unusedVariables false
set_option linter.unusedSimpArgs false
variable {P:Program} {fr:Fr} {hp:Hp} {nx:Nat} {ops:Array Oper}
def VArr.cut {n:Nat} (A:VArr n) (a b:Int):List Int:=(A.l.drop a.toNat).take (b.toNat - a.toNat)
end Go.Sx
end

section
namespace Go.Sx
open Go.RowKit
set_option linter.unusedVariables false
set_option linter.unusedSimpArgs false
def svV:SV→Value
 | .v x=>x
 | _=>undef
class KeyE (K:Type) [Enc K] [DecidableEq K] where
 L:List TypeDesc
 op:∀ k:K,plainA (Enc.cells k) = some ((Enc.cells k).map svV)
 fits:∀ k:K,leavesV L ((Enc.cells k).map svV) = true
 eq:∀ a b:K,eqLs ((Enc.cells a).map svV) ((Enc.cells b).map svV) = (a == b)
variable {K:Type} [Enc K] [DecidableEq K] [KeyE K]
def kV (k:K):Value:=.agg ((Enc.cells k).map svV).toArray
def mE (m:List (K×Int)):List (Value×SV):=m.map fun p=>(kV p.1,.v (.int .i64 p.2))
omit [DecidableEq K] [KeyE K] in
theorem stM_mE (m:List (K×Int)):stM (mE m) = true:=by
 induction m with
 | nil=>rfl
 | cons p r ih=>simp only [mE,List.map_cons,stM,SV.st,Bool.true_and]; exact ih
omit [DecidableEq K] [KeyE K] in
@[push_cast] theorem ren_mE (τ:Nm→Nm) (m:List (K×Int)):(mE m).map (fun p=>(p.1,renS τ p.2)) = mE m:=by
 simp [mE,renS,Function.comp_def]
attribute [push_cast] stM_mE
omit [DecidableEq K] [KeyE K] in
@[push_cast] theorem mE_nil:mE ([]:List (K×Int)) = []:=rfl
end Go.Sx
end

section
namespace Go.Sx
open Go.RowKit
set_option linter.unusedVariables false
set_option linter.unusedSimpArgs false
variable {P:Program} {fr:Fr} {hp:Hp} {nx:Nat} {ops:Array Oper}
variable {n:Nat}
theorem VArr.vals (a:VArr n):(Enc.cells a).map svV = a.l.map fun x=>Value.int .i64 x:=by
 show (VArr.cells a).map svV = _
 rw [VArr.cells_fl,List.map_map]; rfl
end Go.Sx
end

section
namespace Go.Proofs.Ytelegonboeacaaa
open Go Go.Proofs Go.RowKit Go.Maps Go.Sx
set_option linter.unusedVariables false
theorem spec_at {f:FuncId} {args:List SV} {x:SV} (spec:SpecW Try.prog f args [] 0 (fun r h n=>r = x∧h = []∧n = 0)) (hx:x.cl = true) (W:World) (I0:Nat→Prop) (hI:∀ b,I0 b→b < W.heap.size) (gl:TabOk Try.prog I0 W) (vals:Array Value) (hs:vals.size = args.length)
  (hd:∀ i s,args[i]? = some s→Den Try.prog (getH []) (fun _=>none) I0 W s (vals.getD i undef)):Calls Try.prog f vals W fun e w'=>(∃ v,e = .returned v∧Den Try.prog (getH []) (fun _=>none) (fun b=>b < w'.heap.size) w' x v)∧Below W.heap.size W w':=by
 let X:Cx:={ gl:=gl,P:=Try.prog,w0:=W,I0:=I0,W0:=fun _=>False,m:=0,ids0:=fun _=>none,C0:=fun _=>.unborn }
 have hIm:∀ b,I0 b→Im W I0 (fun _=>False) (getH []) (fun _=>none) W b:=fun b hb=>⟨.inl hb,hI b hb,fun k hk=>by cases hk⟩
 have hH:HeapF X [] 0 X.ids0 X.w0:=⟨⟨⟨fun k=>trivial,(fun k k' b o o' hl=>by cases hl),(fun k b o hl=>by cases hl),fun b hb=>⟨hI b hb,fun h=>h⟩,fun b _ _=>rfl,rfl,⟨rfl,.of (Nat.le_refl _)⟩,rfl,Nat.le_refl _⟩,fun k hk=>absurd hk (Nat.not_lt_zero _),fun k hk=>absurd hk (Nat.not_lt_zero _)⟩,fun k _=>rfl,Nat.le_refl _⟩
 refine (spec.2 X vals rfl rfl rfl hH hs fun i s hi=>?_).mono fun e W' he=>?_
 ·have:=hd i s hi
  exact this.mono (I:=I0) ⟨fun b hb=>⟨hIm b hb,rfl⟩,(fun k hk=>by cases hk),(fun k hk=>by cases hk)⟩
 obtain ⟨r,res,hp',nx',ids',rfl,⟨rfl,rfl,_⟩,hF,hd⟩:=he
 exact ⟨⟨r,rfl,den_cl (fun q hq=>⟨hq.2.1,rfl⟩) hd hx⟩,⟨hF.st.os,hF.st.tape.1,hF.st.output,hF.st.size,fun b hb=>hF.st.evol b hb (fun h=>h)⟩⟩
theorem spec_row {α:Type} [Enc α] {f:FuncId} {args:List SV} {e:TypeId} {xs:List α} (spec:SpecW Try.prog f args [] 0 (fun x h n=>x = .own 0 0 xs.length∧h = [(0,.row e (fl xs))]∧n = 1)) (hz:Try.prog.cellsOf e = Enc.sz α) (W:World) (I0:Nat→Prop) (hI:∀ b,I0 b→b < W.heap.size) (gl:TabOk Try.prog I0 W) (vals:Array Value) (hs:vals.size = args.length)
  (hd:∀ i s,args[i]? = some s→Den Try.prog (getH []) (fun _=>none) I0 W s (vals.getD i undef)):Calls Try.prog f vals W fun e w'=>(∃ v,e = .returned v∧Den Try.prog (getH []) (fun _=>none) (fun b=>b < w'.heap.size) w' (.sl xs.length (fl xs)) v)∧Below W.heap.size W w':=by
 let X:Cx:={ gl:=gl,P:=Try.prog,w0:=W,I0:=I0,W0:=fun _=>False,m:=0,ids0:=fun _=>none,C0:=fun _=>.unborn }
 have hIm:∀ b,I0 b→Im W I0 (fun _=>False) (getH []) (fun _=>none) W b:=fun b hb=>⟨.inl hb,hI b hb,fun k hk=>by cases hk⟩
 have hH:HeapF X [] 0 X.ids0 X.w0:=⟨⟨⟨fun k=>trivial,(fun k k' b o o' hl=>by cases hl),(fun k b o hl=>by cases hl),fun b hb=>⟨hI b hb,fun h=>h⟩,fun b _ _=>rfl,rfl,⟨rfl,.of (Nat.le_refl _)⟩,rfl,Nat.le_refl _⟩,fun k hk=>absurd hk (Nat.not_lt_zero _),fun k hk=>absurd hk (Nat.not_lt_zero _)⟩,fun k _=>rfl,Nat.le_refl _⟩
 refine (spec.2 X vals rfl rfl rfl hH hs fun i s hi=>?_).mono fun e' W' he=>?_
 ·have:=hd i s hi
  exact this.mono (I:=I0) ⟨fun b hb=>⟨hIm b hb,rfl⟩,(fun k hk=>by cases hk),(fun k hk=>by cases hk)⟩
 obtain ⟨r,res,hp',nx',ids',rfl,⟨rfl,rfl,_⟩,hF,hd⟩:=he
 refine ⟨⟨r,rfl,?_⟩,⟨hF.st.os,hF.st.tape.1,hF.st.output,hF.st.size,fun b hb=>hF.st.evol b hb (fun h=>h)⟩⟩
 obtain ⟨a,cap,rfl,h1,h2,h3,hor⟩:=den_own hd rfl
 rcases hor with ⟨h0,_⟩ | ⟨b,o,e1,cs,arr,hC,hid,rfl,hw,hsz⟩
 ·have:xs = []:=List.length_eq_zero_iff.1 h0
  subst this
  exact .sl0 h2
 ·have hC':Chunk.row e (fl xs) = .row e1 cs:=hC
  cases hC'
  have hch:=hF.st.ch (0:Nm)
  have hgc:getH [((0:Nm),Chunk.row e (fl xs))] 0 = .row e (fl xs):=rfl
  rw [hgc] at hch
  simp only [DenC,hid] at hch
  obtain ⟨arr',ha,hl,hx⟩:=hch
  rw [hw] at ha; cases ha
  refine .sl b _ cap (fun i=>arr.getD (o+i) undef) ((Array.getElem?_eq_some_iff.1 hw).1) h1 h2 (fun i x hi=>?_) fun i x hi=>?_
  ·have hi':i < (fl xs).length:=(List.getElem?_eq_some_iff.1 hi).1
   simp only [World.cell?,hw,Nat.zero_mul,Nat.add_zero]
   rw [Array.getD_eq_getD_getElem?,Array.getElem?_eq_getElem (by omega)]
   rfl
  ·exact den_cl (fun q hq=>⟨hq.2.1,rfl⟩) (hx i x hi) (clL_get (stL_clL (fl_st xs)) i x hi)
def lsF {α:Type} (O J:α→Int) [Enc α] (tr:List α):Nat→Int→Int
 | 0,_=>-1
 | k+1,x=>if O (ix tr k) = 13∧x = J (ix tr k) then k else lsF O J tr k x
def ldF {α:Type} (T O J:α→Int) [Enc α] (tr:List α):Nat→Int→Int→Option Nat
 | 0,_,_=>none
 | k+1,x,s=>if O (ix tr k) = 13∧x = J (ix tr k) then none else if O (ix tr k) = 12∧x = J (ix tr k)∧s = T (ix tr k) then some k else ldF T O J tr k x s
def Bad {α:Type} (T O J:α→Int) [Enc α] (tr:List α) (late:Nat→Nat→Bool) (k:Nat):Prop :=
 (O (ix tr k) = 12∨O (ix tr k) = 13)∧((0≤lsF O J tr k (J (ix tr k))∧late (lsF O J tr k (J (ix tr k))).toNat k = true)∨(O (ix tr k) = 13∧∃ s i,ldF T O J tr k (J (ix tr k)) s = some i∧late i k = true))
def Res {α:Type} (T O J:α→Int) [Enc α] (tr:List α) (late:Nat→Nat→Bool) (a c:Int):Prop :=
 (∃ k:Nat,k < tr.length∧Bad T O J tr late k∧(∀ j < k,¬ Bad T O J tr late j)∧a = k∧c = 0)∨((∀ j < tr.length,¬ Bad T O J tr late j)∧a = 0∧c = 6)
theorem lsF_succ {α:Type} (O J:α→Int) [Enc α] (tr:List α) (k:Nat):lsF O J tr (k+1) = if O (ix tr k) = 13 then up (lsF O J tr k) (J (ix tr k)) (k:Int) else lsF O J tr k:=by
 funext x
 by_cases h:O (ix tr k) = 13
 ·rw [if_pos h]
  by_cases e:x = J (ix tr k)
  ·rw [e,up_same]; exact if_pos ⟨h,rfl⟩
  ·rw [up_ne _ _ e]; exact if_neg fun c=>e c.2
 ·rw [if_neg h]; exact if_neg fun c=>h c.1
theorem ldF_succ {α:Type} (T O J:α→Int) [Enc α] (tr:List α) (k:Nat):ldF T O J tr (k+1) = if O (ix tr k) = 13 then up (ldF T O J tr k) (J (ix tr k)) (fun _=>none) else if O (ix tr k) = 12 then up (ldF T O J tr k) (J (ix tr k)) (up (ldF T O J tr k (J (ix tr k))) (T (ix tr k)) (some k)) else ldF T O J tr k:=by
 funext x s
 show (if O (ix tr k) = 13∧x = J (ix tr k) then none else if O (ix tr k) = 12∧x = J (ix tr k)∧s = T (ix tr k) then some k else ldF T O J tr k x s) = _
 by_cases h:O (ix tr k) = 13
 ·rw [if_pos h]
  by_cases e:x = J (ix tr k)
  ·rw [if_pos ⟨h,e⟩,e,up_same]
  ·rw [if_neg (fun c=>e c.2),up_ne _ _ e,if_neg (fun c=>e c.2.1)]
 ·rw [if_neg h,if_neg (fun c=>h c.1)]
  by_cases g:O (ix tr k) = 12
  ·rw [if_pos g]
   by_cases e:x = J (ix tr k)
   ·subst e
    rw [up_same]
    by_cases f:s = T (ix tr k)
    ·rw [f,up_same,if_pos ⟨g,rfl,rfl⟩]
    ·rw [up_ne _ _ f,if_neg (fun c=>f c.2.2)]
   ·rw [up_ne _ _ e,if_neg (fun c=>e c.2.1)]
  ·rw [if_neg g,if_neg (fun c=>g c.1)]
end Go.Proofs.Ytelegonboeacaaa
end

section
namespace Go.Proofs.Ytelegonboeacaaa
open Go Go.Proofs Go.RowKit Go.Maps Go.Sx
set_option linter.unusedVariables false
theorem den_i2 {C:Nm→Chunk} {ids:Ids} {I:Nat→Prop} {w:World} {a b:Int} {v:Value} (h:Den Try.prog C ids I w (.agg [iS a,iS b]) v):v = .agg #[.int .i64 a,.int .i64 b]:=by
 obtain ⟨arr,rfl,hs,hx⟩:=den_agg h
 obtain ⟨l⟩:=arr
 match l,hs with
 | [x,y],_ =>
  have h0:x = _:=den_v (hx 0 _ rfl)
  have h1:y = _:=den_v (hx 1 _ rfl)
  rw [h0,h1]
theorem cell_of_box {w:World} {b:Nat} {v:Value} {t:TypeId} (h:w.heap[b]? = some (.cells #[v] t (0,0))):w.cell? ⟨b,0,none⟩ = some v∧w.frozen? ⟨b,0,none⟩ = false:=by
 constructor
 ·simp [World.cell?,h]
 ·simp [World.frozen?,h]
theorem fl_get? {α:Type} [Enc α] (xs:List α) (i j:Nat) (h:i < xs.length) (hj:j < Enc.sz α):(fl xs)[i * Enc.sz α+j]? = (Enc.cells (ix xs (i:Int)))[j]?:=by
 have:=fl_at xs i h
 rw [show ix xs (i:Int) = xs.getD i default from rfl,← this,List.getElem?_take_of_lt hj,List.getElem?_drop]
theorem box4 {w:World} {b:Nat} {a0 a1 a2 a3:Value} {t:TypeId} (h:w.heap[b]? = some (.cells #[a0,a1,a2,a3] t (0,0))):w.cell? ⟨b,0,none⟩ = some a0∧w.cell? ⟨b,1,none⟩ = some a1∧w.cell? ⟨b,2,none⟩ = some a2∧w.cell? ⟨b,3,none⟩ = some a3:=by
 refine ⟨?_,?_,?_,?_⟩ <;> simp [World.cell?,h]
theorem box2 {w:World} {b:Nat} {a0 a1:Value} {t:TypeId} (h:w.heap[b]? = some (.cells #[a0,a1] t (0,0))):w.cell? ⟨b,0,none⟩ = some a0∧w.cell? ⟨b,1,none⟩ = some a1∧w.frozen? ⟨b,0,none⟩ = false∧w.frozen? ⟨b,1,none⟩ = false:=by
 refine ⟨?_,?_,?_,?_⟩ <;> simp [World.cell?,World.frozen?,h]
theorem law3:Keyed Try.prog 3:=int_keyed Try.underlying3
theorem zero67 (w:World):(zeroValue 67).run Try.prog w = .ok (.pointer none) w:=by kernel_rfl
theorem lsF_lt {α:Type} [Enc α] {O J:α→Int} {tr:List α} {x:Int} {k:Nat} (h:0≤lsF O J tr k x):∃ i:Nat,lsF O J tr k x = i∧i < k:=by
 induction k with
 | zero=>exact absurd h (by simp [lsF])
 | succ k ih =>
  have e:lsF O J tr (k+1) x = if O (ix tr k) = 13∧x = J (ix tr k) then (k:Int) else lsF O J tr k x:=rfl
  rw [e] at h ⊢
  split at h
  ·rename_i c; rw [if_pos c]; exact ⟨k,rfl,Nat.lt_succ_self k⟩
  ·rename_i c; rw [if_neg c]
   obtain ⟨i,h1,h2⟩:=ih h
   exact ⟨i,h1,Nat.lt_succ_of_lt h2⟩
theorem ldF_lt {α:Type} [Enc α] {T O J:α→Int} {tr:List α} {x s:Int} {i:Nat} {k:Nat} (h:ldF T O J tr k x s = some i):i < k:=by
 induction k with
 | zero=>cases h
 | succ k ih =>
  have e:ldF T O J tr (k+1) x s = if O (ix tr k) = 13∧x = J (ix tr k) then none else if O (ix tr k) = 12∧x = J (ix tr k)∧s = T (ix tr k) then some k else ldF T O J tr k x s:=rfl
  rw [e] at h
  split at h
  ·cases h
  ·split at h
   ·have:=Option.some.inj h; omega
   ·exact Nat.lt_succ_of_lt (ih h)
theorem ldF_val {α:Type} [Enc α] {T O J:α→Int} {tr:List α} {x s:Int} {i:Nat} {k:Nat} (h:ldF T O J tr k x s = some i):s = T (ix tr (i:Int))∧i < k:=by
 induction k with
 | zero=>cases h
 | succ k ih =>
  have e:ldF T O J tr (k+1) x s = if O (ix tr k) = 13∧x = J (ix tr k) then none else if O (ix tr k) = 12∧x = J (ix tr k)∧s = T (ix tr k) then some k else ldF T O J tr k x s:=rfl
  rw [e] at h
  split at h
  ·cases h
  ·split at h
   ·rename_i c
    have:=Option.some.inj h
    subst this
    exact ⟨c.2.2,Nat.lt_succ_self _⟩
   ·exact ⟨(ih h).1,Nat.lt_succ_of_lt (ih h).2⟩
theorem has_no {D:DU} {x:Lit} (h:Maps.has D x = false) (zd:DU):D.atKey x zd = zd:=by
 cases D with
 | map es =>
  rw [Maps.has_eq,List.any_eq_false] at h
  have:es.find? (fun p=>p.1.sameKey x) = none:=List.find?_eq_none.2 h
  simp only [DataW.atKey,this]
 | _=>rfl
theorem tells_some {D:DU} {f:Int→Option Nat} (h:Tells D f) {x c:Int} (hx:Wf x) (hat:∀ zd,D.atKey (Ki x) zd = .lit (.int .i64 c)):∃ i:Nat,f x = some i∧c = i:=by
 have h1:=(h x hx (.lit (.bool true))).symm.trans (hat _)
 cases hf:f x with
 | none=>rw [hf] at h1; cases h1
 | some i =>
  rw [hf] at h1
  simp only [Option.map_some,Option.getD_some,DataW.lit.injEq,Lit.int.injEq,true_and] at h1
  exact ⟨i,rfl,h1.symm⟩
theorem tells_has {D:DU} {f:Int→Option Nat} (h:Tells D f) {x:Int} (hx:Wf x) {i:Nat} (hf:f x = some i):Maps.has D (Ki x) = true:=by
 cases hh:Maps.has D (Ki x) with
 | true=>rfl
 | false =>
  have h1:=(has_no hh (.lit (.bool true))).symm.trans (h x hx _)
  rw [hf] at h1
  cases h1
theorem ret25 {R:Ending→World→Prop} {a:Act} {w:World} {b:Nat} {x y r:Value} (h4:a.tmps.getD 4 undef = r) (h5:a.tmps.getD 5 undef = .pointer (some ⟨b,0,none⟩)) (hw:w.heap[b]? = some (.cells #[x,y] 26 (0,0))) (hd:a.defers = []) (hR:R (.returned (.tuple #[r,.agg #[x,y]])) w) :
  bodyPost Try.prog Try.f25 R .ret a w:=by
 refine bodyPost_ret_by (v:=.tuple #[r,.agg #[x,y]]) ?_ hd hR
 have hl:=run_loadVar_row (P:=Try.prog) w b 26 26 #[x,y] (0,0) _ hw Try.underlying26 rfl (by kernel_rfl)
 have hr:Try.f25.results = #[.tmp 4,.cell 5 26]:=rfl
 rw [Array.getD_eq_getD_getElem?] at h4 h5
 simp only [results,hr]
 simp [Sem.run_bind,Result.andThen,h5,h4,asAddr,hl]
theorem setCell_two {w:World} {b:Nat} {x y x' y':Value} {t:TypeId} (h:w.heap[b]? = some (.cells #[x,y] t (0,0))):((w.setCell ⟨b,0,none⟩ x').setCell ⟨b,1,none⟩ y').heap[b]? = some (.cells #[x',y'] t (0,0)):=by
 unfold World.setCell
 simp only [Array.getElem?_modify,if_true,h,Option.map_some]
 rfl
theorem setCell_one {w:World} {b:Nat} {x y x':Value} {t:TypeId} (h:w.heap[b]? = some (.cells #[x,y] t (0,0))):(w.setCell ⟨b,0,none⟩ x').heap[b]? = some (.cells #[x',y] t (0,0)):=by
 unfold World.setCell
 simp only [Array.getElem?_modify,if_true,h,Option.map_some]
 rfl
theorem setCell_snd {w:World} {b:Nat} {x y y':Value} {t:TypeId} (h:w.heap[b]? = some (.cells #[x,y] t (0,0))):(w.setCell ⟨b,1,none⟩ y').heap[b]? = some (.cells #[x,y'] t (0,0)):=by
 unfold World.setCell
 simp only [Array.getElem?_modify,if_true,h,Option.map_some]
 rfl
theorem setCell_far {w:World} {b c o:Nat} {v:Value} (h:c≠b):(w.setCell ⟨b,o,none⟩ v).heap[c]? = w.heap[c]?:=by
 unfold World.setCell
 simp only [Array.getElem?_modify]
 rw [if_neg (fun e=>h e.symm)]
theorem setCell_size {w:World} {b o:Nat} {v:Value}:(w.setCell ⟨b,o,none⟩ v).heap.size = w.heap.size:=by
 unfold World.setCell; simp
theorem two_sets {w:World} {b:Nat} {p q x y:Value} {t:TypeId} {ob:Obj} (h:w.heap[b]? = some (.cells #[p,q] t (0,0))) :
  w.grownBy (((w.setCell ⟨b,0,none⟩ x).alloc ob).setCell ⟨b,1,none⟩ y) (some b)∧(((w.setCell ⟨b,0,none⟩ x).alloc ob).setCell ⟨b,1,none⟩ y).heap[b]? = some (.cells #[x,y] t (0,0))∧(((w.setCell ⟨b,0,none⟩ x).alloc ob).setCell ⟨b,1,none⟩ y).heap[w.heap.size]? = some ob ∧
  ((w.setCell ⟨b,0,none⟩ x).alloc ob).heap[b]? = some (.cells #[x,q] t (0,0)):=by
 have hb:=(Array.getElem?_eq_some_iff.1 h).1
 have h1:=setCell_one (x':=x) h
 have h2:((w.setCell ⟨b,0,none⟩ x).alloc ob).heap[b]? = some (.cells #[x,q] t (0,0)):=(Below.heap_alloc _ ob b (by rw [setCell_size]; exact hb)).trans h1
 refine ⟨⟨rfl,rfl,rfl,by rw [setCell_size,World.size_alloc,setCell_size]; omega,fun k hk hn=>?_⟩,setCell_snd h2,?_,h2⟩
 ·have hn':k≠b:=fun e=>hn (by rw [e])
  rw [setCell_far hn']
  exact (Below.heap_alloc _ ob k (by rw [setCell_size]; exact hk)).trans (setCell_far hn')
 ·rw [setCell_far (by omega)]
  have:=heap_alloc_new' (w.setCell ⟨b,0,none⟩ x) ob
  rwa [setCell_size] at this
theorem two_sets' {w:World} {b:Nat} {p q x y:Value} {t:TypeId} {ob:Obj} (h:w.heap[b]? = some (.cells #[p,q] t (0,0))) :
  w.grownBy (((w.setCell ⟨b,0,none⟩ x).setCell ⟨b,1,none⟩ y).alloc ob) (some b)∧(((w.setCell ⟨b,0,none⟩ x).setCell ⟨b,1,none⟩ y).alloc ob).heap[b]? = some (.cells #[x,y] t (0,0))∧(((w.setCell ⟨b,0,none⟩ x).setCell ⟨b,1,none⟩ y).alloc ob).heap[w.heap.size]? = some ob:=by
 have hb:=(Array.getElem?_eq_some_iff.1 h).1
 have hs:((w.setCell ⟨b,0,none⟩ x).setCell ⟨b,1,none⟩ y).heap.size = w.heap.size:=by rw [setCell_size,setCell_size]
 have h1:=setCell_snd (y':=y) (setCell_one (x':=x) h)
 have al:∀ k,k < w.heap.size→(((w.setCell ⟨b,0,none⟩ x).setCell ⟨b,1,none⟩ y).alloc ob).heap[k]? = ((w.setCell ⟨b,0,none⟩ x).setCell ⟨b,1,none⟩ y).heap[k]?:=fun k hk=>Below.heap_alloc _ ob k (by rw [hs]; exact hk)
 refine ⟨⟨rfl,rfl,rfl,by rw [World.size_alloc,hs]; omega,fun k hk hn=>?_⟩,(al b hb).trans h1,?_⟩
 ·have hn':k≠b:=fun e=>hn (by rw [e])
  rw [al k hk,setCell_far hn',setCell_far hn']
 ·have:=heap_alloc_new' ((w.setCell ⟨b,0,none⟩ x).setCell ⟨b,1,none⟩ y) ob
  rwa [hs] at this
theorem wf_nat {k:Nat} (h:k≤2000):Wf (k:Int):=by
 have e1:IntKind.i64.min = -9223372036854775808:=by decide
 have e2:IntKind.i64.max = 9223372036854775807:=by decide
 simp only [Wf,Lit.wf,e1,e2,Bool.and_eq_true,decide_eq_true_eq]
 omega
structure Hd (p:Prop):Prop where
 o:p
section
variable {α:Type} [Enc α] (T O J V:α→Int) (hc:∀ x:α,Enc.cells x = [.v (.int .i64 (T x)),.v (.int .i64 (O x)),.v (.int .i64 (J x)),.v (.int .i64 (V x))]) (tr:List α) (ps:List Int) (S:List (VArr 65)) (late:Nat→Nat→Bool)
set_option maxRecDepth 100000 in
set_option maxHeartbeats 40000000 in
include hc in
theorem first_w (at0:Int)
  (hck:SpecW Try.prog 15 [.sl tr.length (fl tr),.sl ps.length (fl ps)] [] 0 (fun x h n=>x = .agg [iS 0,iS at0]∧h = []∧n = 0))
  (hst:SpecW Try.prog 33 [.sl tr.length (fl tr),.sl ps.length (fl ps)] [] 0 (fun x h n=>x = .own 0 0 S.length∧h = [(0,.row 62 (fl S))]∧n = 1))
  (hac:∀ e:α,SpecW Try.prog 40 [.agg (Enc.cells e)] [] 0 (fun x h n=>x = bS (O e == 12 || O e == 13)∧h = []∧n = 0))
  (hlt:∀ i k:Nat,i < tr.length→k < tr.length→SpecW Try.prog 39 [iS i,iS k,.iptr [.sl tr.length (fl tr)] 0,.iptr [.sl S.length (fl S)] 0] [] 0 (fun x h n=>x = bS (late i k)∧h = []∧n = 0))
  (hfa:SpecW Try.prog 38 [iS 6,iS 0] [] 0 (fun x h n=>x = .agg [iS 6,iS 0]∧h = []∧n = 0))
  (hlen:tr.length≤2000) (hwf:∀ k,k < tr.length→Wf (T (ix tr k))∧Wf (J (ix tr k)))
  (W:World) (I0:Nat→Prop) (hI:∀ b,I0 b→b < W.heap.size) (gl:TabOk Try.prog I0 W) (v0 v1:Value)
  (hd0:Den Try.prog (getH []) (fun _=>none) I0 W (.sl tr.length (fl tr)) v0) (hd1:Den Try.prog (getH []) (fun _=>none) I0 W (.sl ps.length (fl ps)) v1) :
  Calls Try.prog 25 #[v0,v1] W fun e w'=>(∃ a c,e = .returned (.tuple #[.int .i64 a,.agg #[.int .i64 c,.int .i64 0]])∧Res T O J tr late a c)∧Below W.heap.size W w':=by
 have mixed:Try.prog.follows .mixedOrders = true:=by kernel_rfl
 obtain ⟨ad0,cap0,rfl,-,-,-⟩:=den_sl hd0
 obtain ⟨v0,hv0⟩:∃ v0,Value.slice ad0 tr.length cap0 = v0:=⟨_,rfl⟩
 have cls:∀ {β:Type} [Enc β] (xs:List β),(SV.sl xs.length (fl xs)).cl = true:=fun xs=>by simp only [SV.cl]; exact stL_clL (fl_st xs)
 have D0:Hd (∀ w1,Below W.heap.size W w1→Den Try.prog (getH []) (fun _=>none) I0 w1 (.sl tr.length (fl tr)) v0):=⟨fun w1 h=>hv0 ▸ den_cl (fun q hq=>⟨hq,h.block q (hI q hq)⟩) hd0 (cls tr)⟩
 have D1:Hd (∀ w1,Below W.heap.size W w1→Den Try.prog (getH []) (fun _=>none) I0 w1 (.sl ps.length (fl ps)) v1):=⟨fun w1 h=>den_cl (fun q hq=>⟨hq,h.block q (hI q hq)⟩) hd1 (cls ps)⟩
 have G:Hd (∀ w1,Below W.heap.size W w1→TabOk Try.prog I0 w1):=⟨fun w1 h=>gl.on fun q hq=>⟨hq,h.block q (hI q hq)⟩⟩
 have I:Hd (∀ w1,Below W.heap.size W w1→∀ b,I0 b→b < w1.heap.size):=⟨fun w1 h b hb=>Nat.lt_of_lt_of_le (hI b hb) h.size⟩
 have DD:Hd (∀ w1,Below W.heap.size W w1→∀ i s,[SV.sl tr.length (fl tr),SV.sl ps.length (fl ps)][i]? = some s→Den Try.prog (getH []) (fun _=>none) I0 w1 s (#[v0,v1].getD i undef)):=⟨fun w1 h i s hi=>by
  match i,hi with
  | 0,hi=>cases hi; exact D0.o w1 h
  | 1,hi=>cases hi; exact D1.o w1 h⟩
 have CK:Hd (∀ w1,Below W.heap.size W w1→Calls Try.prog 15 #[v0,v1] w1 fun e w'=>e = .returned (.agg #[.int .i64 0,.int .i64 at0])∧Below w1.heap.size w1 w'):=⟨fun w1 h =>
  (spec_at hck (by rfl) w1 I0 (I.o w1 h) (G.o w1 h) _ rfl (DD.o w1 h)).mono fun e w' he=>by
   obtain ⟨⟨v,rfl,hv⟩,hB⟩:=he
   exact ⟨congrArg _ (den_i2 hv),hB⟩⟩
 have SP:Hd (∀ w1,Below W.heap.size W w1→Calls Try.prog 33 #[v0,v1] w1 fun e w'=>(∃ ad cap,e = .returned (.slice ad S.length cap)∧Den Try.prog (getH []) (fun _=>none) (fun b=>b < w'.heap.size) w' (.sl S.length (fl S)) (.slice ad S.length cap))∧Below w1.heap.size w1 w'):=⟨fun w1 h =>
  (spec_row hst (by kernel_rfl) w1 I0 (I.o w1 h) (G.o w1 h) _ rfl (DD.o w1 h)).mono fun e w' he=>by
   obtain ⟨⟨v,rfl,hv⟩,hB⟩:=he
   obtain ⟨ad,cap,rfl,-⟩:=den_sl hv
   exact ⟨⟨ad,cap,rfl,hv⟩,hB⟩⟩
 have AL:∀ (w1:World) (o:Obj),Below w1.heap.size w1 (w1.alloc o):=fun w1 o=>(Below.refl _ w1).alloc (Nat.le_refl _) o
 obtain ⟨wa,hwa⟩:∃ wa,(W.alloc (.cells #[v0] 22)).alloc (.cells #[.int .i64 0,.int .i64 0] 26) = wa:=⟨_,rfl⟩
 have Ba:Below W.heap.size W wa:=hwa ▸ ((AL W _).trans ((AL _ _).mono (AL W _).size))
 have hsa:wa.heap.size = W.heap.size+2:=by rw [← hwa]; simp
 have ha2:wa.heap[W.heap.size]? = some (.cells #[v0] 22 (0,0)):=by rw [← hwa]; exact (Below.heap_alloc _ _ _ (by simp)).trans (heap_alloc_new' W _)
 have ha5:wa.heap[W.heap.size+1]? = some (.cells #[.int .i64 0,.int .i64 0] 26 (0,0)):=by rw [← hwa]; have:=heap_alloc_new' (W.alloc (.cells #[v0] 22)) (.cells #[.int .i64 0,.int .i64 0] 26); rwa [World.size_alloc] at this
 obtain ⟨hc2,hf2⟩:=cell_of_box ha2
 have hwa':Hd ((W.alloc (.cells #[v0] 22)).alloc (.cells #[.int .i64 0,.int .i64 0] 26) = wa):=⟨hwa⟩
 have hac':Hd (∀ e:α,SpecW Try.prog 40 [.agg (Enc.cells e)] [] 0 (fun x h n=>x = bS (O e == 12 || O e == 13)∧h = []∧n = 0)):=⟨hac⟩
 have hlt':Hd (∀ i k:Nat,i < tr.length→k < tr.length→SpecW Try.prog 39 [iS i,iS k,.iptr [.sl tr.length (fl tr)] 0,.iptr [.sl S.length (fl S)] 0] [] 0 (fun x h n=>x = bS (late i k)∧h = []∧n = 0)):=⟨hlt⟩
 have hfa':Hd (SpecW Try.prog 38 [iS 6,iS 0] [] 0 (fun x h n=>x = .agg [iS 6,iS 0]∧h = []∧n = 0)):=⟨hfa⟩
 have hwf':Hd (∀ k,k < tr.length→Wf (T (ix tr k))∧Wf (J (ix tr k))):=⟨hwf⟩
 have hc':Hd (∀ x:α,Enc.cells x = [.v (.int .i64 (T x)),.v (.int .i64 (O x)),.v (.int .i64 (J x)),.v (.int .i64 (V x))]):=⟨hc⟩
 have gl':Hd (TabOk Try.prog I0 W):=⟨gl⟩
 have hI':Hd (∀ b,I0 b→b < W.heap.size):=⟨hI⟩
 have AL':Hd (∀ (w1:World) (o:Obj),Below w1.heap.size w1 (w1.alloc o)):=⟨AL⟩
 have cls':Hd (∀ {β:Type} [Enc β] (xs:List β),(SV.sl xs.length (fl xs)).cl = true):=⟨cls⟩
 have hd0':Hd (Den Try.prog (getH []) (fun _=>none) I0 W (.sl tr.length (fl tr)) v0):=⟨hv0 ▸ hd0⟩
 have ha2':Hd (wa.heap[W.heap.size]? = some (.cells #[v0] 22 (0,0))):=⟨ha2⟩
 have ha5':Hd (wa.heap[W.heap.size+1]? = some (.cells #[.int .i64 0,.int .i64 0] 26 (0,0))):=⟨ha5⟩
 clear hck hst hwa hac hlt hfa hwf hc gl hI AL cls hd0 hd1 ha2 ha5
 subst hv0
 go_enter Try.func25,Try.ntmps25
 go_upto_region 1 with (fail)
 rw [hwa'.o]
 go_upto_region 2 with (first | (go_at_call 15; refine (CK.o wa Ba).mono ?_; rintro e w1 ⟨rfl,hB1⟩))
 go_upto_region 4 with (fail)
 obtain ⟨wb,hwb⟩:∃ wb,w1.alloc (.cells #[.int .i64 0,.int .i64 at0] 26) = wb:=⟨_,rfl⟩
 have Bb:Below wa.heap.size wa wb:=hwb ▸ hB1.trans ((AL'.o _ _).mono hB1.size)
 have hb2:=(Bb.block W.heap.size (by omega)).trans ha2'.o
 obtain ⟨hcb2,hfb2⟩:=cell_of_box hb2
 have SPb:=SP.o wb (Ba.trans (Bb.mono Ba.size))
 rw [hwb]
 clear hwb hb2
 go_upto_region 5 with (first | (go_at_call 33; refine SPb.mono ?_; rintro e w2 ⟨⟨ad,cap,rfl,hS⟩,hB2⟩))
 clear SPb
 obtain ⟨wc,hwc⟩:∃ wc,w2.alloc (.cells #[.slice ad S.length cap] 59) = wc:=⟨_,rfl⟩
 rw [hwc]
 have hs2:w2.heap.size < wc.heap.size:=by rw [← hwc]; simp
 have B2c:Below w2.heap.size w2 wc:=hwc ▸ AL'.o _ _
 have hc7:wc.heap[w2.heap.size]? = some (.cells #[.slice ad S.length cap] 59 (0,0)):=by rw [← hwc]; exact heap_alloc_new' w2 _
 have hbs:W.heap.size+2≤w2.heap.size:=by have:=hB2.size; have:=Bb.size; omega
 have Bc:Below wa.heap.size wa wc:=Bb.trans ((hB2.trans (B2c.mono hB2.size)).mono Bb.size)
 have BWc:Below W.heap.size W wc:=Ba.trans (Bc.mono Ba.size)
 have hc2:=(Bc.block W.heap.size (by omega)).trans ha2'.o
 have hc5:=(Bc.block (W.heap.size+1) (by omega)).trans ha5'.o
 clear hwc
 have TR:Hd (∀ wr,Below wc.heap.size wc wr→∀ k:Nat,k < tr.length→∃ b0 o0,ad0 = some ⟨b0,o0,none⟩∧wr.cell? ⟨b0,o0+k * 4,none⟩ = some (.int .i64 (T (ix tr k)))∧wr.cell? ⟨b0,o0+k * 4+1,none⟩ = some (.int .i64 (O (ix tr k)))∧wr.cell? ⟨b0,o0+k * 4+2,none⟩ = some (.int .i64 (J (ix tr k)))∧wr.cell? ⟨b0,o0+k * 4+3,none⟩ = some (.int .i64 (V (ix tr k)))):=⟨fun wr hr k hk=>by
  obtain ⟨a',c',hsl,h1,h2,h3⟩:=den_sl (D0.o wr (BWc.trans (hr.mono BWc.size)))
  cases hsl
  rcases h3 with ⟨h0,_⟩ | ⟨b,o,d,rfl,hIb,hcb,hdb⟩
  ·omega
  ·have g:∀ m x,m < 4→(Enc.cells (ix tr (k:Int)))[m]? = some (.v x)→wr.cell? ⟨b,o+(k * 4+m),none⟩ = some x:=fun m x hm hx=>by
    have hsz:Enc.sz α = 4:=by rw [← Enc.len (ix tr (k:Int)),hc'.o]; rfl
    have hg:(fl tr)[k * 4+m]? = some (.v x):=by
     rw [← hx,← hsz]
     exact fl_get? tr k m hk (by omega)
    rw [hcb _ _ hg,den_v (hdb _ _ hg)]
   have e0:=hc'.o (ix tr (k:Int))
   exact ⟨b,o,rfl,g 0 _ (by omega) (by rw [e0]; rfl),g 1 _ (by omega) (by rw [e0]; rfl),g 2 _ (by omega) (by rw [e0]; rfl),g 3 _ (by omega) (by rw [e0]; rfl)⟩⟩
 have Gr:Hd (∀ wr,Below wc.heap.size wc wr→TabOk Try.prog I0 wr):=⟨fun wr hr=>G.o wr (BWc.trans (hr.mono BWc.size))⟩
 have Ir:Hd (∀ wr,Below wc.heap.size wc wr→∀ b,I0 b→b < wr.heap.size):=⟨fun wr hr=>I.o wr (BWc.trans (hr.mono BWc.size))⟩
 have AC:Hd (∀ wr,Below wc.heap.size wc wr→∀ k:Nat,Calls Try.prog 40 #[.agg #[.int .i64 (T (ix tr k)),.int .i64 (O (ix tr k)),.int .i64 (J (ix tr k)),.int .i64 (V (ix tr k))]] wr fun e w'=>e = .returned (.bool (O (ix tr k) == 12 || O (ix tr k) == 13))∧Below wr.heap.size wr w'):=⟨fun wr hr k =>
  (spec_at (hac'.o (ix tr (k:Int))) rfl wr I0 (Ir.o wr hr) (Gr.o wr hr) _ rfl (fun i s hi=>by
   match i,hi with
   | 0,hi =>
    cases hi
    rw [hc'.o]
    refine .agg _ rfl fun i x hi=>?_
    match i,hi with
    | 0,hi=>cases hi; exact .v
    | 1,hi=>cases hi; exact .v
    | 2,hi=>cases hi; exact .v
    | 3,hi=>cases hi; exact .v)).mono fun e w' he=>by
   obtain ⟨⟨v,rfl,hv⟩,hB⟩:=he
   rw [den_v hv]
   exact ⟨rfl,hB⟩⟩
 have FA:Hd (∀ wr,Below wc.heap.size wc wr→Calls Try.prog 38 #[.int .i64 6,.int .i64 0] wr fun e w'=>e = .returned (.agg #[.int .i64 6,.int .i64 0])∧Below wr.heap.size wr w'):=⟨fun wr hr =>
  (spec_at hfa'.o rfl wr I0 (Ir.o wr hr) (Gr.o wr hr) _ rfl (fun i s hi=>by
   match i,hi with
   | 0,hi=>cases hi; exact .v
   | 1,hi=>cases hi; exact .v)).mono fun e w' he=>by
   obtain ⟨⟨v,rfl,hv⟩,hB⟩:=he
   rw [den_i2 hv]
   exact ⟨rfl,hB⟩⟩
 have LT:Hd (∀ wr,Below wc.heap.size wc wr→∀ i k:Nat,i < tr.length→k < tr.length→Calls Try.prog 39 #[.int .i64 i,.int .i64 k,.pointer (some ⟨W.heap.size,0,none⟩),.pointer (some ⟨w2.heap.size,0,none⟩)] wr fun e w'=>e = .returned (.bool (late i k))∧Below wr.heap.size wr w'):=⟨fun wr hr i k hi hk =>
  (spec_at (hlt'.o i k hi hk) rfl wr (fun b=>b < wc.heap.size) (fun b hb=>Nat.lt_of_lt_of_le hb hr.size) ((gl'.o.on (I':=fun b=>b < wc.heap.size) fun q hq=>⟨Nat.lt_of_lt_of_le (hI'.o q hq) BWc.size,(BWc.trans (hr.mono BWc.size)).block q (hI'.o q hq)⟩)) _ rfl (fun i s hi=>by
   match i,hi with
   | 0,hi=>cases hi; exact .v
   | 1,hi=>cases hi; exact .v
   | 2,hi =>
    cases hi
    refine .iptr W.heap.size 0 (fun _=>.slice ad0 tr.length cap0) (by omega) (fun i x hi=>?_) fun i x hi=>?_
    ·match i,hi with
     | 0,hi=>simp [World.cell?,(hr.block W.heap.size (by omega)).trans hc2]
    ·match i,hi with
     | 0,hi =>
      cases hi
      exact den_cl (fun q hq=>⟨Nat.lt_of_lt_of_le (hI'.o q hq) BWc.size,rfl⟩) (D0.o wr (BWc.trans (hr.mono BWc.size))) (cls'.o tr)
   | 3,hi =>
    cases hi
    refine .iptr w2.heap.size 0 (fun _=>.slice ad S.length cap) (by omega) (fun i x hi=>?_) fun i x hi=>?_
    ·match i,hi with
     | 0,hi=>simp [World.cell?,(hr.block w2.heap.size (by omega)).trans hc7]
    ·match i,hi with
     | 0,hi =>
      cases hi
      exact den_cl (fun q hq=>⟨Nat.lt_trans hq hs2,(hr.block q (Nat.lt_trans hq hs2)).trans (B2c.block q hq)⟩) hS (cls'.o S))).mono fun e w' he=>by
   obtain ⟨⟨v,rfl,hv⟩,hB⟩:=he
   rw [den_v hv]
   exact ⟨rfl,hB⟩⟩
 obtain ⟨hcc2,hfc2⟩:=cell_of_box hc2
 clear hc7 hcb2 hfb2 hB1 hB2 Bb Ba B2c
 have hmm:=@run_makeMap Try.prog
 go_upto_region 7 with (fail)
 obtain ⟨wd,hwd⟩:∃ wd,wc.alloc (.map #[] 0) = wd:=⟨_,rfl⟩
 rw [hwd]
 have Bd:Below wc.heap.size wc wd:=hwd ▸ AL'.o _ _
 have hsd:wd.heap.size = wc.heap.size+1:=by rw [← hwd]; simp
 have hmd:wd.heap[wc.heap.size]? = some (.map #[] 0):=by rw [← hwd]; exact heap_alloc_new' wc _
 obtain ⟨hcd2,hfd2⟩:=cell_of_box ((Bd.block W.heap.size (by omega)).trans hc2)
 have St0:Hd (St wc.heap.size wc.heap.size wd 0 (fun _=>none) (fun _=>0) (lsF O J tr 0) (ldF T O J tr 0)):=⟨⟨⟨_,ownsMap_empty hmd 0,Tells.empty⟩,Nat.le_refl _,fun x _=>⟨rfl,fun _=>rfl⟩,(fun x b h=>by cases h),(fun x y b h=>by cases h),(fun x y b c h=>by cases h)⟩⟩
 clear hwd hmd hc2 hcc2 hfc2
 go_upto_block 0 with (fail)
 go_wp2
 go_loopw [29] (fun i wr=>∃ (k m:Nat) (blk:Int→Option Nat) (lbk:Int→Nat),i = .int .i64 k∧k≤tr.length∧m≤2 * k∧Below wc.heap.size wc wr∧wc.heap.size < wr.heap.size∧Hd (St wc.heap.size wc.heap.size wr m blk lbk (lsF O J tr k) (ldF T O J tr k))∧Hd (∀ i < k,¬ Bad T O J tr late i)) (fun i _=>tr.length - (intOf i).toNat)
 case atStart=>exact ⟨0,0,_,_,rfl,Nat.zero_le _,Nat.le_refl _,Bd,by omega,St0,⟨fun i hi=>absurd hi (Nat.not_lt_zero _)⟩⟩
 case round =>
  obtain ⟨k,m,blk,lbk,rfl,hk,hm,hB,hbc,hSt,hno⟩:=hrel
  clear St0 hcd2 hfd2 Bd
  by_cases hlt:k < tr.length
  ·obtain ⟨b0,o0,rfl,c0,c1,c2,c3⟩:=TR.o wr hB k hlt
   go_upto_region 10 with (fail)
   have hACk:=AC.o (wr.alloc (.cells #[.int .i64 (T (ix tr k)),.int .i64 (O (ix tr k)),.int .i64 (J (ix tr k)),.int .i64 (V (ix tr k))] 31)) (hB.trans ((AL'.o _ _).mono hB.size)) k
   have hwfk:=hwf'.o k hlt
   have hbad:Hd (Bad T O J tr late k↔(O (ix tr k) = 12∨O (ix tr k) = 13)∧((0≤lsF O J tr k (J (ix tr k))∧late (lsF O J tr k (J (ix tr k))).toNat k = true)∨(O (ix tr k) = 13∧∃ s i,ldF T O J tr k (J (ix tr k)) s = some i∧late i k = true))):=⟨Iff.rfl⟩
   have hls1:Hd (lsF O J tr (k+1) = if O (ix tr k) = 13 then up (lsF O J tr k) (J (ix tr k)) (k:Int) else lsF O J tr k):=⟨lsF_succ O J tr k⟩
   have hld1:Hd (ldF T O J tr (k+1) = if O (ix tr k) = 13 then up (ldF T O J tr k) (J (ix tr k)) (fun _=>none) else if O (ix tr k) = 12 then up (ldF T O J tr k) (J (ix tr k)) (up (ldF T O J tr k (J (ix tr k))) (T (ix tr k)) (some k)) else ldF T O J tr k):=⟨ldF_succ T O J tr k⟩
   have hlw:Hd (∀ x s i,ldF T O J tr k x s = some i→Wf s):=⟨fun x s i h=>by
    obtain ⟨e,hik⟩:=ldF_val h
    rw [e]; exact (hwf'.o i (by omega)).1⟩
   clear c0 c1 c2 c3
   generalize T (ix tr (k:Int)) = tk at *
   generalize O (ix tr (k:Int)) = ok at *
   generalize J (ix tr (k:Int)) = jk at *
   generalize V (ix tr (k:Int)) = vk at *
   obtain ⟨w3,hw3⟩:∃ w3,wr.alloc (.cells #[.int .i64 tk,.int .i64 ok,.int .i64 jk,.int .i64 vk] 31) = w3:=⟨_,rfl⟩
   rw [hw3] at hACk ⊢
   have B3:Below wr.heap.size wr w3:=hw3 ▸ AL'.o _ _
   have hs3:w3.heap.size = wr.heap.size+1:=by rw [← hw3]; simp
   have hb3:w3.heap[wr.heap.size]? = some (.cells #[.int .i64 tk,.int .i64 ok,.int .i64 jk,.int .i64 vk] 31 (0,0)):=by rw [← hw3]; exact heap_alloc_new' wr _
   have d0:w3.cell? ⟨wr.heap.size,0,none⟩ = some (.int .i64 tk):=by simp [World.cell?,hb3]
   have d1:w3.cell? ⟨wr.heap.size,1,none⟩ = some (.int .i64 ok):=by simp [World.cell?,hb3]
   have d2:w3.cell? ⟨wr.heap.size,2,none⟩ = some (.int .i64 jk):=by simp [World.cell?,hb3]
   have d3:w3.cell? ⟨wr.heap.size,3,none⟩ = some (.int .i64 vk):=by simp [World.cell?,hb3]
   clear hw3
   by_cases hacc:ok = 12∨ok = 13
   ·rw [show (ok == 12 || ok == 13) = true by rcases hacc with h | h <;> simp [h]] at hACk
    go_upto_region 11 with (first | (go_at_call 40; refine hACk.mono ?_; rintro e w4 ⟨rfl,hB4⟩))
    clear d0 d1 d2 d3 hACk
    have B4:Below wr.heap.size wr w4:=B3.trans (hB4.mono B3.size)
    have hb4:=(hB4.block wr.heap.size (by omega)).trans hb3
    have hSt4:Hd (St wc.heap.size wc.heap.size w4 m blk lbk (lsF O J tr k) (ldF T O J tr k)):=⟨hSt.o.keep B4⟩
    have hB4c:Below wc.heap.size wc w4:=hB.trans (B4.mono hB.size)
    have hbc4:wc.heap.size < w4.heap.size:=Nat.lt_of_lt_of_le hbc B4.size
    have hsr4:wr.heap.size < w4.heap.size:=by have:=hB4.size; omega
    obtain ⟨D,hown0,hT0⟩:=hSt4.o.map
    have hown:Hd (w4.ownsMap Try.prog 3 Rp wc.heap.size m D):=⟨hown0⟩
    have hT:Hd (Tells D blk):=⟨hT0⟩
    have hM:Hd (IsMap D):=⟨hown0.isMap⟩
    obtain ⟨v,ps,hrun,hv⟩:=hown0.lookup law3 (t:=65) Try.underlying65 (zero67 w4) (zd:=.lit (.bool false)) rfl (key:=.int .i64 jk) (kl:=Ki jk) (keyOf_int_mk Try.underlying3 hwfk.2)
    rw [hT0 jk hwfk.2] at hv
    clear hown0 hT0 hB4 B3 hb3
    cases hbk:blk jk
    case' none =>
     rw [hbk] at hv
     obtain rfl:=Rp_none hv
     clear hv
     obtain ⟨e0,e1,e2,e3⟩:=box4 hb4
     go_upto_region 14 with (fail)
     clear e0 e1 e2 e3
     obtain ⟨w5,hw5⟩:∃ w5,(w4.alloc (.map #[] 0)).alloc (.cells #[.int .i64 (-1),.map (some w4.heap.size)] 70) = w5:=⟨_,rfl⟩
     rw [hw5]
     have hs5:w5.heap.size = w4.heap.size+2:=by rw [← hw5]; simp
     have B5:Below w4.heap.size w4 w5:=hw5 ▸ (AL'.o w4 _).trans ((AL'.o _ _).mono (AL'.o w4 _).size)
     have hm5:w5.heap[w4.heap.size]? = some (.map #[] 0):=by rw [← hw5]; exact (Below.heap_alloc _ _ _ (by simp)).trans (heap_alloc_new' w4 _)
     have hc5':w5.heap[w4.heap.size+1]? = some (.cells #[.int .i64 (-1),.map (some w4.heap.size)] 70 (0,0)):=by rw [← hw5]; have:=heap_alloc_new' (w4.alloc (.map #[] 0)) (.cells #[.int .i64 (-1),.map (some w4.heap.size)] 70); rwa [World.size_alloc] at this
     have hown5:w5.ownsMap Try.prog 3 Rp wc.heap.size m D:=hown.o.kept (grown_below B5) (by simp)
     have hb5:=(B5.block wr.heap.size hsr4).trans hb4
     obtain ⟨e0,e1,e2,e3⟩:=box4 hb5
     have hkey:=keyOf_int_mk Try.underlying3 hwfk.2
     clear hw5
     go_upto_region 15 with (first | (at_mapUpdate; refine wpList_mapUpdate_own _ rfl _ _ _ 65 rfl 3 67 law3 Try.underlying65 Rp wc.heap.size m D rfl hown5 (by simp only [maxLen]; omega) _ _ (Ki jk) rfl rfl hkey (.lit (.int .i64 ((w4.heap.size+1:Nat):Int))) [] rfl ?_; intro w6 hown6 hg6))
     clear e0 e1 e2 e3 hown5
     have hS6:Hd (St wc.heap.size wc.heap.size w6 (m+1) (up blk jk (some (w4.heap.size+1))) (up lbk jk w4.heap.size) (lsF O J tr k) (ldF T O J tr k)):=⟨St.new hSt4.o hB4c.size hbk hT.o hM.o B5 hc5' hm5 (by omega) (Nat.le_refl _) hown6 hg6 hbc4⟩
     have hb6:up blk jk (some (w4.heap.size+1)) jk = some (w4.heap.size+1):=up_same _ _ _
     have hB6:Below wc.heap.size wc w6:=(hB4c.trans (B5.mono hB4c.size)).grown hg6 (by omega) (fun k e=>by cases e; exact Nat.le_refl _)
     have hbox6:=(hg6.block wr.heap.size (by omega) (by simp; omega)).trans hb5
     have hbc6:wc.heap.size < w6.heap.size:=by have:=hg6.size; omega
     have hsr6:wr.heap.size < w6.heap.size:=by have:=hg6.size; omega
     have hm6:m+1≤2 * k+1:=by omega
     generalize up blk jk (some (w4.heap.size+1)) = blk6 at *
     generalize up lbk jk w4.heap.size = lbk6 at *
     generalize w4.heap.size+1 = b6 at *
     generalize m+1 = m6 at *
    case' some b =>
     rw [hbk] at hv
     obtain rfl:=Rp_some hv
     clear hv
     obtain ⟨e0,e1,e2,e3⟩:=box4 hb4
     go_upto_region 15 with (fail)
     clear e0 e1 e2 e3
     have hS6:=hSt4
     have hb6:=hbk
     have hB6:=hB4c
     have hbox6:=hb4
     have hbc6:=hbc4
     have hsr6:=hsr4
     have hm6:m≤2 * k+1:=by omega
     generalize w4 = w6 at *
     generalize blk = blk6 at *
     generalize lbk = lbk6 at *
     generalize b = b6 at *
     generalize m = m6 at *
    all_goals
     clear hT hM hown
     try go_frame
     obtain ⟨a1,a2,a3,a4,-⟩:=hS6.o.mem jk b6 hb6
     obtain ⟨f0,f1,fz0,fz1⟩:=box2 a4
     obtain ⟨e0,e1,e2,e3⟩:=box4 hbox6
     have ha4:Hd _:=⟨a4⟩
     clear a4
     by_cases hl:0≤lsF O J tr k jk
     case' pos =>
      obtain ⟨i,hi,hik⟩:=lsF_lt hl
      have hLT:=LT.o w6 hB6 i k (by omega) hlt
      have hi0:¬ ((i:Int) < 0):=by omega
      by_cases hlate:late i k = true
      ·rw [hlate] at hLT
       rw [hi] at f0
       go_upto_region 16 with (first | (go_at_call 39; refine hLT.mono ?_; rintro e w7 ⟨rfl,hB7⟩))
       have hB7c:Below wc.heap.size wc w7:=hB6.trans (hB7.mono hB6.size)
       obtain ⟨g0,g1,gz0,gz1⟩:=box2 ((hB7c.block (W.heap.size+1) (by omega)).trans hc5)
       clear e0 e1 e2 e3 f0 f1 fz0 fz1 hLT
       clear TR AC FA LT hls1 hld1 hS6 hB6 hbox6 hb6 ha4 hSt4 hb4 hB4c hSt D0 D1 DD G I CK SP hac' hlt' hfa' hwf' hc' gl' hI' cls' hd0' ha2' ha5' hmm hm6 hbc6 hsr6 hi0 hS Ir Gr
       go_wp2
       refine ret25 rfl rfl (setCell_two ((hB7c.block (W.heap.size+1) (by omega)).trans hc5)) rfl ⟨⟨k,0,rfl,.inl ⟨k,hlt,hbad.o.2 ⟨hacc,.inl ⟨by omega,by rw [hi,Int.toNat_natCast]; exact hlate⟩⟩,hno.o,rfl,rfl⟩⟩,((BWc.trans (hB7c.mono BWc.size)).setCell (by show W.heap.size≤W.heap.size+1; omega) _).setCell (by show W.heap.size≤W.heap.size+1; omega) _⟩
      rw [Bool.not_eq_true] at hlate
      rw [hlate] at hLT
      rw [hi] at f0
      go_upto_region 17 with (first | (go_at_call 39; refine hLT.mono ?_; rintro e w7 ⟨rfl,hB7⟩))
      have hnb:Hd (¬ (0≤lsF O J tr k jk∧late (lsF O J tr k jk).toNat k = true)):=⟨by rw [hi,Int.toNat_natCast,hlate]; simp⟩
      have hB7c:Below wc.heap.size wc w7:=hB6.trans (hB7.mono hB6.size)
      have hS7:Hd (St wc.heap.size wc.heap.size w7 m6 blk6 lbk6 (lsF O J tr k) (ldF T O J tr k)):=⟨hS6.o.keep hB7⟩
      have hbox7:=(hB7.block _ hsr6).trans hbox6
      have hbc7:wc.heap.size < w7.heap.size:=Nat.lt_of_lt_of_le hbc6 hB7.size
      have hsr7:wr.heap.size < w7.heap.size:=Nat.lt_of_lt_of_le hsr6 hB7.size
      clear hLT hi0
     case' neg =>
      have hl':((0:Int)≤lsF O J tr k jk) = False:=by simp [hl]
      go_upto_region 17 with (fail)
      have hnb:Hd (¬ (0≤lsF O J tr k jk∧late (lsF O J tr k jk).toNat k = true)):=⟨fun h=>hl h.1⟩
      have hB7c:=hB6
      have hS7:=hS6
      have hbox7:=hbox6
      have hbc7:=hbc6
      have hsr7:=hsr6
      clear hl'
      generalize w6 = w7 at *
     all_goals --R
      clear e0 e1 e2 e3 f0 f1 fz0 fz1 ha4
      by_cases h12:ok = 12
      ·obtain ⟨e0,e1,e2,e3⟩:=box4 hbox7
       go_upto_region 18 with (fail)
       obtain ⟨a1,a2,a3,a4,DL,hownL,hTL⟩:=hS7.o.mem jk b6 hb6
       obtain ⟨f0,f1,fz0,fz1⟩:=box2 a4
       have hTL':Hd (Tells DL (ldF T O J tr k jk)):=⟨hTL⟩
       have hML':Hd (IsMap DL):=⟨hownL.isMap⟩
       have hkey:=keyOf_int_mk Try.underlying3 hwfk.1
       clear hTL TR AC FA LT D0 D1 DD G I CK SP hac' hlt' hfa' hwf' hc' gl' hI' cls' hd0' ha2' ha5' hmm hS Ir Gr hS6 hB6 hbox6 hSt4 hb4 hB4c hSt
       have hm7:m6 < maxLen:=by (have e1:maxLen = 9223372036854775807:=(by decide)); omega
       obtain ⟨w8,hrun8,hown8,hg8⟩:=(hownL.drew).update law3 (t:=68) Try.underlying68 hm7 hkey (plainElem_int Try.underlying3 (wf_nat (show k≤2000 by omega)))
       have hown8':Hd _:=⟨hown8⟩
       obtain ⟨k0,k1,k2,k3⟩:=box4 ((hg8.block wr.heap.size (by exact hsr7) (by intro e'; have e2:=Option.some.inj e'; obtain ⟨es,ck,c2,_⟩:=hownL; rw [← e2,hbox7] at c2; cases c2)).trans hbox7)
       obtain ⟨q0,q1,qz0,qz1⟩:=box2 ((hg8.block b6 (by exact (Array.getElem?_eq_some_iff.1 a4).1) (by intro e'; cases e'; obtain ⟨es,ck,c2,_⟩:=hownL; rw [c2] at a4; cases a4)).trans a4)
       clear hown8 hownL a4
       go_region_held3 (fun w'=>w'.cell? ⟨b6,1,none⟩ = some (.map (some (lbk6 jk)))∧w'.cell? ⟨wr.heap.size,0,none⟩ = some (.int .i64 tk)) (go_keep) (fail)
       go_wp2
       go_roundw
       case rel =>
        have hg8':w7.grownBy w8 (some (lbk6 jk)):=⟨hg8.os,hg8.tape,hg8.output,hg8.size,hg8.block⟩
        have hB8:Below wc.heap.size wc w8:=hB7c.grown hg8' hB7c.size (fun k e=>by cases e; exact a2)
        refine ⟨k+1,m6+1,blk6,lbk6,by go_num,by omega,by omega,hB8,Nat.lt_of_lt_of_le hbc7 hg8'.size,⟨?_⟩,⟨fun i hi=>?_⟩⟩
        ·rw [hls1.o,hld1.o,if_neg (by omega),if_neg (by omega),if_pos h12]
         exact St.load hS7.o hb6 hTL'.o hML'.o hown8'.o hg8'
        ·by_cases e:i = k
         ·subst e
          intro h
          rcases (hbad.o.1 h).2 with h | h
          ·exact hnb.o h
          ·omega
         ·exact hno.o i (by omega)
       case measure=>simp [intOf]; omega
      ·have h13:ok = 13:=by omega
       obtain ⟨e0,e1,e2,e3⟩:=box4 hbox7
       obtain ⟨a1,a2,a3,a4,DL,hownL,hTL⟩:=hS7.o.mem jk b6 hb6
       obtain ⟨f0,f1,fz0,fz1⟩:=box2 a4
       have hTL':Hd (Tells DL (ldF T O J tr k jk)):=⟨hTL⟩
       have hown':Hd (w7.ownsMap Try.prog 3 (plainElem Try.prog 3) (lbk6 jk) m6 DL):=⟨hownL⟩
       clear hTL hownL
       have ha4:Hd _:=⟨a4⟩
       clear a4
       go_wp2_with (first | (at_range; refine wpList_range_own _ rfl _ 68 rfl 3 3 law3 Try.underlying68 _ (lbk6 jk) m6 DL rfl hown'.o ?_; intro w8 hrg8 hg8 hs8))
       try go_frame
       subst h13
       clear h12 hacc
       have hsz:Hd (∀ a b:World,Below a.heap.size a b→a.heap.size≤b.heap.size):=⟨fun a b h=>h.size⟩
       have B8:Below w7.heap.size w7 w8:=⟨hg8.os,hg8.tape,hg8.output,hg8.size,fun q hq=>hg8.block q hq (by simp)⟩
       clear e0 e1 e2 e3 f0 f1 fz0 fz1 ha4
       clear TR AC FA D0 D1 DD G I CK SP hac' hlt' hfa' hwf' hc' gl' hI' cls' hd0' ha2' ha5' hS Ir Gr hS6 hB6 hbox6 hSt4 hb4 hB4c hSt
       obtain ⟨pr,hpr⟩:∃ pr,wr.heap.size = pr:=⟨_,rfl⟩
       rw [hpr] at hbox7 hsr7 ⊢
       go_loopw [] (fun wx=>∃ (left:Lit→Bool) (cnt:Nat),wx.ranges Try.prog 3 (plainElem Try.prog 3) (lbk6 jk) w7.heap.size m6 DL left cnt∧Below w7.heap.size w7 wx∧w7.heap.size < wx.heap.size∧Hd (∀ s i,Wf s→left (Ki s) = false→ldF T O J tr k jk s = some i→late i k = false)) (fun wx=>wx.rangeLeft (lbk6 jk) w7.heap.size)
       case atStart=>exact ⟨_,_,hrg8,B8,by omega,⟨fun s i hs hl hf=>by rw [tells_has hTL'.o hs hf] at hl; cases hl⟩⟩
       case round =>
        obtain ⟨left,cnt,hrg,hBx,hsx,hdone⟩:=hrel
        clear hrg8 hg8 hs8 B8
        go_wp2_with (first | (at_next; refine wpList_next_ranges_ii _ rfl _ rfl 3 3 .i64 .i64 law3 Try.underlying3 Try.underlying3 (lbk6 jk) w7.heap.size m6 _ _ _ rfl hrg ?_ ?_))
        ·intro hc0 hl0
         go_upto_region 24 with (fail)
         have hk':Hd (¬ Bad T O J tr late k):=⟨fun h=>by
          rcases (hbad.o.1 h).2 with h | ⟨_,s,i,hf,hl⟩
          ·exact hnb.o h
          ·have:=hdone.o s i (hlw.o jk s i hf) (hl0 _) hf
           rw [hl] at this; cases this⟩
         have hSy:=hS7.o.keep hBx
         obtain ⟨a1,a2,a3,a4,-⟩:=hSy.mem jk b6 hb6
         have hby:=(Array.getElem?_eq_some_iff.1 a4).1
         obtain ⟨f0,f1,fz0,fz1⟩:=box2 a4
         obtain ⟨-,-,-,hz3⟩:=two_sets (x:=.int .i64 k) (y:=.map (some wr.heap.size)) (ob:=.map #[] 0) a4
         obtain ⟨hgz,hz1,hz2⟩:=two_sets' (x:=.int .i64 k) (y:=.map (some wr.heap.size)) (ob:=.map #[] 0) a4
         obtain ⟨y0,y1,yz0,yz1⟩:=box2 hz3
         have hgz':Hd _:=⟨hgz⟩
         have hz1':Hd _:=⟨hz1⟩
         have hz2':Hd _:=⟨hz2⟩
         have hSy':Hd _:=⟨hSy⟩
         clear a4 hz1 hz2 hz3 hgz hSy hrg hdone hlw LT hS7 hown' hTL' hbad
         go_wp2
         go_roundw
         case rel =>
          have hBx':Below wc.heap.size wc wr:=hB7c.trans (hBx.mono hB7c.size)
          refine ⟨k+1,m6,blk6,up lbk6 jk wr.heap.size,by go_num,by omega,by omega,hBx'.grown hgz'.o hBx'.size (fun q e=>by cases e; exact a1),Nat.lt_of_lt_of_le (Nat.lt_of_lt_of_le hbc7 hBx.size) hgz'.o.size,⟨?_⟩,⟨fun i hi=>?_⟩⟩
          ·rw [hls1.o,hld1.o]
           simp only [if_true]
           exact St.store hSy'.o hBx'.size (Nat.lt_of_lt_of_le hbc7 hBx.size) hb6 hgz'.o hz1'.o hz2'.o (Nat.le_refl _)
          ·by_cases e:i = k
           ·subst e; exact hk'.o
           ·exact hno.o i (by omega)
         case measure=>simp [intOf]; omega
        ·intro x c wy cnt1 hwx hwc hlx hat hrg1 hlt1 hg1 hs1 hen
         obtain ⟨i,hfi,rfl⟩:=tells_some hTL'.o hwx hat
         have hik:=ldF_lt hfi
         have hBy:Below w7.heap.size w7 wy:=hBx.grown hg1 hBx.size (fun k e=>by cases e; exact Nat.le_refl _)
         have hByc:Below wc.heap.size wc wy:=hB7c.trans (hBy.mono hB7c.size)
         have hLT:=LT.o wy hByc i k (by omega) hlt
         by_cases hlate:late i k = true
         ·rw [hlate] at hLT
          go_upto_region 23 with (first | (go_at_call 39; refine hLT.mono ?_; rintro e w9 ⟨rfl,hB9⟩))
          have hB9c:Below wc.heap.size wc w9:=hByc.trans (hB9.mono hByc.size)
          obtain ⟨g0,g1,gz0,gz1⟩:=box2 ((hB9c.block (W.heap.size+1) (by omega)).trans hc5)
          have hk':Hd (Bad T O J tr late k):=⟨hbad.o.2 ⟨.inr (by first | rfl | trivial),.inr ⟨by first | rfl | trivial,x,i,hfi,hlate⟩⟩⟩
          clear LT hls1 hld1 hb6 hmm hm6 hbc6 hsr6 hLT hrg1 hg1 hen hat hrg hdone hbad hS7 hown' hTL'
          go_wp2
          refine ret25 rfl rfl (setCell_two ((hB9c.block (W.heap.size+1) (by omega)).trans hc5)) rfl ⟨⟨k,0,rfl,.inl ⟨k,hlt,hk'.o,hno.o,rfl,rfl⟩⟩,((BWc.trans (hB9c.mono BWc.size)).setCell (by show W.heap.size≤W.heap.size+1; omega) _).setCell (by show W.heap.size≤W.heap.size+1; omega) _⟩
         ·rw [Bool.not_eq_true] at hlate
          rw [hlate] at hLT
          go_wp2_with (first | (go_at_call 39; refine hLT.mono ?_; rintro e w9 ⟨rfl,hB9⟩))
          go_roundw
          case rel =>
           have hrg9:=hrg1.kept (grown_below hB9) (by simp) (by simp)
           refine ⟨_,cnt1,hrg9,hBy.trans (hB9.mono hBy.size),by have:=hB9.size; omega,⟨fun s j hs hl hf=>?_⟩⟩
           by_cases e:s = x
           ·subst e; rw [hfi] at hf; cases hf; exact hlate
           ·refine hdone.o s j hs ?_ hf
            have:(Ki s).sameKey (Ki x) = false:=sameKey_ne (Ki_ne e)
            rw [this] at hl
            simpa using hl
          case measure =>
           have hrg9:=hrg1.kept (grown_below hB9) (by simp) (by simp)
           rw [hrg9.left_eq,hrg.left_eq]; exact hlt1
   ·rw [show (ok == 12 || ok == 13) = false by simpa using hacc] at hACk
    go_wp2_with (first | (go_at_call 40; refine hACk.mono ?_; rintro e w4 ⟨rfl,hB4⟩))
    go_roundw
    case rel =>
     have Br:Below wr.heap.size wr w4:=B3.trans (hB4.mono B3.size)
     refine ⟨k+1,m,blk,lbk,by go_num,by omega,by omega,hB.trans (Br.mono hB.size),Nat.lt_of_lt_of_le hbc Br.size,⟨?_⟩,⟨fun i hi=>?_⟩⟩
     ·rw [hls1.o,hld1.o,if_neg (fun h=>hacc (.inr h)),if_neg (fun h=>hacc (.inr h)),if_neg (fun h=>hacc (.inl h))]
      exact hSt.o.keep Br
     ·by_cases e:i = k
      ·subst e; exact fun h=>hacc (hbad.o.1 h).1
      ·exact hno.o i (by omega)
    case measure=>simp [intOf]; omega
  ·obtain rfl:k = tr.length:=by omega
   have hFA:=FA.o wr hB
   clear TR AC FA LT D0 D1 DD G I CK SP hac' hlt' hfa' hwf' hc' gl' hI' cls' hd0' ha2' ha5' hS Ir Gr hSt
   go_upto_region 26 with (fail)
   go_wp2_with (first | (go_at_call 38; refine hFA.mono ?_; rintro e w9 ⟨rfl,hB9⟩; obtain ⟨g0,g1,gz0,gz1⟩:=box2 (((hB.trans (hB9.mono hB.size)).block (W.heap.size+1) (by omega)).trans hc5)))
   have hB9c:=hB.trans (hB9.mono hB.size)
   refine ret25 rfl rfl (setCell_two ((hB9c.block (W.heap.size+1) (by omega)).trans hc5)) rfl ⟨⟨0,6,rfl,.inr ⟨hno.o,rfl,rfl⟩⟩,((BWc.trans (hB9c.mono BWc.size)).setCell (by show W.heap.size≤W.heap.size+1; omega) _).setCell (by show W.heap.size≤W.heap.size+1; omega) _⟩
end
end Go.Proofs.Ytelegonboeacaaa
end

section
namespace Go.Proofs.Ytelegonboeacaaa
open Go Go.Proofs Go.RowKit Go.Maps Go.Sx
set_option linter.unusedVariables false
section
variable {α:Type} [Enc α]
set_option maxRecDepth 100000 in
set_option maxHeartbeats 40000000 in
theorem first_w0 (tr:List α) (ps:List Int) (c0 at0:Int) (hne:c0≠0)
  (hck:SpecW Try.prog 15 [.sl tr.length (fl tr),.sl ps.length (fl ps)] [] 0 (fun x h n=>x = .agg [iS c0,iS at0]∧h = []∧n = 0))
  (W:World) (I0:Nat→Prop) (hI:∀ b,I0 b→b < W.heap.size) (gl:TabOk Try.prog I0 W) (v0 v1:Value)
  (hd0:Den Try.prog (getH []) (fun _=>none) I0 W (.sl tr.length (fl tr)) v0) (hd1:Den Try.prog (getH []) (fun _=>none) I0 W (.sl ps.length (fl ps)) v1) :
  Calls Try.prog 25 #[v0,v1] W fun e w'=>e = .returned (.tuple #[.int .i64 0,.agg #[.int .i64 c0,.int .i64 at0]])∧Below W.heap.size W w':=by
 have mixed:Try.prog.follows .mixedOrders = true:=by kernel_rfl
 obtain ⟨ad0,cap0,rfl,-,-,-⟩:=den_sl hd0
 have cls:∀ {β:Type} [Enc β] (xs:List β),(SV.sl xs.length (fl xs)).cl = true:=fun xs=>by simp only [SV.cl]; exact stL_clL (fl_st xs)
 have AL:∀ (w1:World) (o:Obj),Below w1.heap.size w1 (w1.alloc o):=fun w1 o=>(Below.refl _ w1).alloc (Nat.le_refl _) o
 obtain ⟨wa,hwa⟩:∃ wa,(W.alloc (.cells #[.slice ad0 tr.length cap0] 22)).alloc (.cells #[.int .i64 0,.int .i64 0] 26) = wa:=⟨_,rfl⟩
 have Ba:Below W.heap.size W wa:=hwa ▸ ((AL W _).trans ((AL _ _).mono (AL W _).size))
 have hsa:wa.heap.size = W.heap.size+2:=by rw [← hwa]; simp
 have ha2:wa.heap[W.heap.size]? = some (.cells #[.slice ad0 tr.length cap0] 22 (0,0)):=by rw [← hwa]; exact (Below.heap_alloc _ _ _ (by simp)).trans (heap_alloc_new' W _)
 have ha5:wa.heap[W.heap.size+1]? = some (.cells #[.int .i64 0,.int .i64 0] 26 (0,0)):=by rw [← hwa]; have:=heap_alloc_new' (W.alloc (.cells #[.slice ad0 tr.length cap0] 22)) (.cells #[.int .i64 0,.int .i64 0] 26); rwa [World.size_alloc] at this
 have CK:Calls Try.prog 15 #[.slice ad0 tr.length cap0,v1] wa fun e w'=>e = .returned (.agg #[.int .i64 c0,.int .i64 at0])∧Below wa.heap.size wa w' :=
  (spec_at hck (by rfl) wa I0 (fun b hb=>Nat.lt_of_lt_of_le (hI b hb) Ba.size) (gl.on fun q hq=>⟨hq,Ba.block q (hI q hq)⟩) _ rfl (fun i s hi=>by
   match i,hi with
   | 0,hi=>cases hi; exact den_cl (fun q hq=>⟨hq,Ba.block q (hI q hq)⟩) hd0 (cls tr)
   | 1,hi=>cases hi; exact den_cl (fun q hq=>⟨hq,Ba.block q (hI q hq)⟩) hd1 (cls ps))).mono fun e w' he=>by
   obtain ⟨⟨v,rfl,hv⟩,hB⟩:=he
   exact ⟨congrArg _ (den_i2 hv),hB⟩
 obtain ⟨hc2,hf2⟩:=cell_of_box ha2
 have hwa':Hd ((W.alloc (.cells #[.slice ad0 tr.length cap0] 22)).alloc (.cells #[.int .i64 0,.int .i64 0] 26) = wa):=⟨hwa⟩
 have CK':Hd (Calls Try.prog 15 #[.slice ad0 tr.length cap0,v1] wa fun e w'=>e = .returned (.agg #[.int .i64 c0,.int .i64 at0])∧Below wa.heap.size wa w'):=⟨CK⟩
 clear hck hwa gl hI AL cls hd0 hd1 ha2 CK
 go_enter Try.func25,Try.ntmps25
 go_upto_region 1 with (fail)
 rw [hwa'.o]
 go_upto_region 2 with (first | (go_at_call 15; refine CK'.o.mono ?_; rintro e w1 ⟨rfl,hB1⟩))
 obtain ⟨wb,hwb⟩:∃ wb,w1.alloc (.cells #[.int .i64 c0,.int .i64 at0] 26) = wb:=⟨_,rfl⟩
 have Bb:Below wa.heap.size wa wb:=hwb ▸ hB1.trans (((Below.refl _ w1).alloc (Nat.le_refl _) _).mono hB1.size)
 have hb6:wb.heap[w1.heap.size]? = some (.cells #[.int .i64 c0,.int .i64 at0] 26 (0,0)):=by rw [← hwb]; exact heap_alloc_new' w1 _
 have hb5:=(Bb.block (W.heap.size+1) (by omega)).trans ha5
 obtain ⟨e0,e1,ez0,ez1⟩:=box2 hb6
 obtain ⟨f0,f1,fz0,fz1⟩:=box2 hb5
 have hb5':Hd _:=⟨hb5⟩
 have hb:W.heap.size+1≠w1.heap.size:=by have:=hB1.size; omega
 have hbad:(c0 == 0) = false:=by simpa using hne
 rw [hwb]
 clear hwb hb6 hb5 ha5
 go_upto_region 3 with (fail)
 go_region_held3 (fun w'=>w'.cell? ⟨w1.heap.size,0,none⟩ = some (.int .i64 c0)∧w'.cell? ⟨w1.heap.size,1,none⟩ = some (.int .i64 at0)) (go_keep) (fail)
 go_wp2
 refine ret25 rfl rfl (by exact setCell_two hb5'.o) rfl ⟨rfl,?_⟩
 have h1:Below W.heap.size W ((wb.setCell ⟨W.heap.size+1,0,none⟩ (.int .i64 c0)).setCell ⟨W.heap.size+1,1,none⟩ (.int .i64 at0)):=((Ba.trans (Bb.mono Ba.size)).setCell (by show W.heap.size≤W.heap.size+1; omega) _).setCell (by show W.heap.size≤W.heap.size+1; omega) _
 exact ⟨h1.os,h1.tape,h1.output,h1.size,h1.block⟩
noncomputable def firstR (T O J:α→Int) (tr:List α) (late:Nat→Nat→Bool):Int×Int:=open Classical in
 match (List.range tr.length).find? (fun k=>decide (Bad T O J tr late k)) with
 | some k=>((k:Int),0)
 | none=>(0,6)
theorem firstR_res {T O J:α→Int} {tr:List α} {late:Nat→Nat→Bool} {a c:Int} (h:Res T O J tr late a c):firstR T O J tr late = (a,c):=by
 classical
 unfold firstR
 rcases h with ⟨k,hk,hb,hn,rfl,rfl⟩ | ⟨hn,rfl,rfl⟩
 ·rw [show (List.range tr.length).find? (fun k=>decide (Bad T O J tr late k)) = some k from List.find?_range_eq_some.2 ⟨by simpa using hb,List.mem_range.2 hk,fun j hj=>by simpa using hn j hj⟩]
 ·rw [show (List.range tr.length).find? (fun k=>decide (Bad T O J tr late k)) = none from List.find?_eq_none.2 fun j hj=>by simpa using hn j (List.mem_range.1 hj)]
theorem spec_below {P : Program} {f : FuncId} {s0 s1 : SV} {p : SV → Prop} {q : Value → Prop} (hfn : ∃ fn body, P.funcs[f]? = some fn ∧ fn.body = some body ∧ fn.name ≠ "runtime.NumGoroutine") (h0 : s0.cl = true) (h1 : s1.cl = true)
  (hq:∀ r,q r→∃ x,p x∧∀ (C:Nm→Chunk) (ids:Ids) (I:Nat→Prop) (w:World),Den P C ids I w x r)
  (hw:∀ (W:World) (I0:Nat→Prop),(∀ b,I0 b→b < W.heap.size)→TabOk P I0 W→∀ v0 v1,Den P (getH []) (fun _=>none) I0 W s0 v0→Den P (getH []) (fun _=>none) I0 W s1 v1→Calls P f #[v0,v1] W fun e w'=>(∃ r,e = .returned r∧q r)∧Below W.heap.size W w') :
  SpecW P f [s0,s1] [] 0 (fun x h n=>p x∧h = []∧n = 0):=by
 refine ⟨hfn,fun X vals hP hm hdf hF hsz hd=>?_⟩
 subst hP
 obtain ⟨v0,v1,rfl⟩:∃ a b,vals = #[a,b]:=by
  obtain ⟨l⟩:=vals
  match l,hsz with
  | [a,b],_=>exact ⟨a,b,rfl⟩
 have hX0:∀ q,X.I0 q→Im X.w0 X.I0 X.W0 (getH []) X.ids0 X.w0 q:=fun q hq=>⟨.inl hq,(hF.st.im0 q hq).1,fun k hk=>by cases hk⟩
 refine (hw X.w0 (Im X.w0 X.I0 X.W0 (getH []) X.ids0 X.w0) (fun b hb=>hb.2.1) (X.gl.on fun q hq=>⟨hX0 q hq,rfl⟩) v0 v1 (den_cl (fun q hq=>⟨hq,rfl⟩) (hd 0 _ rfl) h0) (den_cl (fun q hq=>⟨hq,rfl⟩) (hd 1 _ rfl) h1)).mono fun e w' he=>?_
 obtain ⟨⟨r,rfl,hr⟩,hB⟩:=he
 obtain ⟨x,hx,hden⟩:=hq r hr
 have ho:=heap_on hF.toHeapC hB.size (fun b hb=>hB.block b hb) hB.os hB.tape hB.output trivial
 exact ⟨r,x,[],0,X.ids0,rfl,⟨hx,rfl,rfl⟩,⟨ho.1,fun k hk=>rfl,by omega⟩,hden _ _ _ _⟩
theorem den_fault {C:Nm→Chunk} {ids:Ids} {I:Nat→Prop} {w:World} {a b c:Int}:Den Try.prog C ids I w (.tup [iS a,.agg [iS b,iS c]]) (.tuple #[.int .i64 a,.agg #[.int .i64 b,.int .i64 c]]):=by
 refine .tup _ rfl fun i x hi=>?_
 match i,hi with
 | 0,hi=>cases hi; exact .v
 | 1,hi =>
  cases hi
  refine .agg _ rfl fun i x hi=>?_
  match i,hi with
  | 0,hi=>cases hi; exact .v
  | 1,hi=>cases hi; exact .v
theorem cl_sl {β:Type} [Enc β] (xs:List β):(SV.sl xs.length (fl xs)).cl = true:=by simp only [SV.cl]; exact stL_clL (fl_st xs)
theorem first_spec0 (tr:List α) (ps:List Int) (c0 at0:Int) (hne:c0≠0)
  (hck:SpecW Try.prog 15 [.sl tr.length (fl tr),.sl ps.length (fl ps)] [] 0 (fun x h n=>x = .agg [iS c0,iS at0]∧h = []∧n = 0)) :
  SpecW Try.prog 25 [.sl tr.length (fl tr),.sl ps.length (fl ps)] [] 0 (fun x h n=>x = .tup [iS 0,.agg [iS c0,iS at0]]∧h = []∧n = 0) :=
 spec_below (q:=fun r=>r = .tuple #[.int .i64 0,.agg #[.int .i64 c0,.int .i64 at0]]) ⟨_,_,Try.func25,rfl,by decide⟩ (cl_sl tr) (cl_sl ps) (fun r hr=>⟨_,rfl,fun _ _ _ _=>by subst hr; exact den_fault⟩)
  fun W I0 hI gl v0 v1 hd0 hd1=>(first_w0 tr ps c0 at0 hne hck W I0 hI gl v0 v1 hd0 hd1).mono fun e w' he=>⟨⟨_,he.1,rfl⟩,he.2⟩
theorem first_spec (T O J V:α→Int) (hc:∀ x:α,Enc.cells x = [.v (.int .i64 (T x)),.v (.int .i64 (O x)),.v (.int .i64 (J x)),.v (.int .i64 (V x))]) (tr:List α) (ps:List Int) (S:List (VArr 65)) (late:Nat→Nat→Bool) (at0:Int)
  (hck:SpecW Try.prog 15 [.sl tr.length (fl tr),.sl ps.length (fl ps)] [] 0 (fun x h n=>x = .agg [iS 0,iS at0]∧h = []∧n = 0))
  (hst:SpecW Try.prog 33 [.sl tr.length (fl tr),.sl ps.length (fl ps)] [] 0 (fun x h n=>x = .own 0 0 S.length∧h = [(0,.row 62 (fl S))]∧n = 1))
  (hac:∀ e:α,SpecW Try.prog 40 [.agg (Enc.cells e)] [] 0 (fun x h n=>x = bS (O e == 12 || O e == 13)∧h = []∧n = 0))
  (hlt:∀ i k:Nat,i < tr.length→k < tr.length→SpecW Try.prog 39 [iS i,iS k,.iptr [.sl tr.length (fl tr)] 0,.iptr [.sl S.length (fl S)] 0] [] 0 (fun x h n=>x = bS (late i k)∧h = []∧n = 0))
  (hfa:SpecW Try.prog 38 [iS 6,iS 0] [] 0 (fun x h n=>x = .agg [iS 6,iS 0]∧h = []∧n = 0))
  (hlen:tr.length≤2000) (hwf:∀ k,k < tr.length→Wf (T (ix tr k))∧Wf (J (ix tr k))) :
  SpecW Try.prog 25 [.sl tr.length (fl tr),.sl ps.length (fl ps)] [] 0 (fun x h n=>x = .tup [iS (firstR T O J tr late).1,.agg [iS (firstR T O J tr late).2,iS 0]]∧h = []∧n = 0) :=
 spec_below (q:=fun r=>r = .tuple #[.int .i64 (firstR T O J tr late).1,.agg #[.int .i64 (firstR T O J tr late).2,.int .i64 0]]) ⟨_,_,Try.func25,rfl,by decide⟩ (cl_sl tr) (cl_sl ps) (fun r hr=>⟨_,rfl,fun _ _ _ _=>by subst hr; exact den_fault⟩)
  fun W I0 hI gl v0 v1 hd0 hd1=>(first_w T O J V hc tr ps S late at0 hck hst hac hlt hfa hlen hwf W I0 hI gl v0 v1 hd0 hd1).mono fun e w' he=>by
   obtain ⟨⟨a,c,rfl,hr⟩,hB⟩:=he
   exact ⟨⟨_,rfl,by rw [firstR_res hr]⟩,hB⟩
end
end Go.Proofs.Ytelegonboeacaaa
end
