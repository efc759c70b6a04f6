/- Plain facts on numbers with check digits. No program in sight. Plain facts about numbers that are written with digits of a base, the lowest digit first. -/
import Derived.WalkKit
import Derived.Lib.Hide
-- merged: K0 Limbs Limbs2 Mem
namespace Go.Proofs.YtbfbgappinilmaaGreatDoor.Nmb
set_option linter.unusedVariables false
def byA (l:List UInt8) (i:Nat):Int:=((l.getD i 48).toNat:Int)
def dgt (l:List UInt8) (i:Nat):Int:=byA l i-48
theorem byA_get {l:List UInt8} {i:Nat} (h:i<l.length):byA l i=(l[i].toNat:Int):=by
 unfold byA
 rw [List.getD_eq_getElem?_getD,List.getElem?_eq_getElem h];rfl
def sumF (f:Nat->Int):Nat->Int
 | 0=>0
 | k+1=>sumF f k+f k
def tr (i:Nat):Int:=if i%2=1 then 3 else 1
def wt (l:List UInt8) (i:Nat):Int:=dgt l (l.length-1-i)*tr i
def sumB (l:List UInt8):Bool:=decide (sumF (wt l) l.length%10=0)
def inL (l:List UInt8) (a b:Int):Bool:=decide (∀ i,i<l.length->a<=byA l i/\byA l i<=b)
theorem inL_yes {l:List UInt8} {a b:Int} (h:inL l a b=true) {i:Nat} (hi:i<l.length):a<=byA l i/\byA l i<=b:=of_decide_eq_true h i hi
theorem inL_mk {l:List UInt8} {a b:Int} (h:∀ i,i<l.length->a<=byA l i/\byA l i<=b):inL l a b=true:=decide_eq_true h
theorem inL_no {l:List UInt8} {a b:Int} {i:Nat} (hi:i<l.length) (h:¬ (a<=byA l i/\byA l i<=b)):inL l a b=false:=decide_eq_false (fun k=>h (k i hi))
def digs (l:List UInt8):Bool:=inL l 48 57&&!l.isEmpty
theorem digs_yes {l:List UInt8} (h:digs l=true):0<l.length/\∀ i,i<l.length->0<=dgt l i/\dgt l i<=9:=by
 unfold digs at h
 rw [Bool.and_eq_true] at h
 refine ⟨?_,fun i hi=>?_⟩
 ·cases l with
  | nil=>simp at h
  | cons a b=>simp
 ·have:=inL_yes h.1 hi
  unfold dgt
  omega
def tagC (c:Int):Bool:=decide ((65<=c/\c<=90)∨(48<=c/\c<=57))
def tagL (l:List UInt8):Bool:=l.all fun c=>tagC (c.toNat:Int)
def valC (c:UInt8):List UInt8:=if 65<=(c.toNat:Int)/\(c.toNat:Int)<=90 then [UInt8.ofNat (48+(c.toNat-55)/10),UInt8.ofNat (48+(c.toNat-55)%10)] else [c]
def vals (l:List UInt8):List UInt8:=l.flatMap valC
end Go.Proofs.YtbfbgappinilmaaGreatDoor.Nmb
namespace Go.Proofs.YtbfbgappinilmaaGreatDoor.Limb
def val (b:Nat):List Nat->Nat
 | []=>0
 | d :: l=>d+b*val b l
def Digs (b:Nat) (l:List Nat):Prop:=∀ d∈l,d<b
def Norm (l:List Nat):Prop:=∀ d,l.getLast?=some d->d≠0
theorem val_nil (b:Nat):val b []=0:=rfl
theorem val_cons (b d:Nat) (l:List Nat):val b (d :: l)=d+b*val b l:=rfl
theorem val_append (b:Nat) (l m:List Nat):val b (l++m)=val b l+b ^ l.length*val b m:=by
 induction l with
 | nil=>simp [val]
 | cons d l ih=>
  simp only [List.cons_append,val_cons,ih,List.length_cons,Nat.pow_succ,Nat.mul_add]
  have:b ^ l.length*b*val b m=b*(b ^ l.length*val b m):=by
   rw [Nat.mul_comm (b ^ l.length) b,Nat.mul_assoc]
  omega
theorem val_snoc (b:Nat) (l:List Nat) (d:Nat):val b (l++[d])=val b l+b ^ l.length*d:=by
 rw [val_append];simp [val]
theorem Digs.nil (b:Nat):Digs b []:=by intro d h;cases h
theorem Digs.append {b:Nat} {l m:List Nat} (h:Digs b l) (k:Digs b m):Digs b (l++m):=by
 intro d hd
 rcases List.mem_append.1 hd with hd | hd
 ·exact h d hd
 ·exact k d hd
theorem Digs.snoc {b d:Nat} {l:List Nat} (h:Digs b l) (hd:d<b):Digs b (l++[d]) :=
 h.append (by intro x hx;simp at hx;omega)
theorem Digs.take {b:Nat} {l:List Nat} (h:Digs b l) (k:Nat):Digs b (l.take k):=fun d hd=>h d (List.mem_of_mem_take hd)
theorem Digs.drop {b:Nat} {l:List Nat} (h:Digs b l) (k:Nat):Digs b (l.drop k):=fun d hd=>h d (List.mem_of_mem_drop hd)
theorem Digs.getD {b:Nat} {l:List Nat} (h:Digs b l) (hb:0<b) (k:Nat):l.getD k 0<b:=by
 rw [List.getD_eq_getElem?_getD]
 rcases Nat.lt_or_ge k l.length with hk | hk
 ·rw [List.getElem?_eq_getElem hk];exact h _ (List.getElem_mem hk)
 ·rw [List.getElem?_eq_none hk];exact hb
theorem Digs.get {b:Nat} {l:List Nat} (h:Digs b l) {k:Nat} (hk:k<l.length):l[k]<b:=h _ (List.getElem_mem hk)
theorem getD_get {l:List Nat} {k:Nat} (h:k<l.length):l.getD k 0=l[k]:=by
 rw [List.getD_eq_getElem?_getD,List.getElem?_eq_getElem h];rfl
theorem val_take_succ (b:Nat) (l:List Nat) (k:Nat):val b (l.take (k+1))=val b (l.take k)+b ^ k*l.getD k 0:=by
 rcases Nat.lt_or_ge k l.length with hk | hk
 ·rw [List.take_succ_eq_append_getElem hk,val_snoc,List.length_take,Nat.min_eq_left (by omega),getD_get hk]
 ·rw [List.take_of_length_le (by omega),List.take_of_length_le hk,List.getD_eq_getElem?_getD,List.getElem?_eq_none hk];simp
theorem val_split (b:Nat) (l:List Nat) (k:Nat) (hk:k<=l.length):val b l=val b (l.take k)+b ^ k*val b (l.drop k):=by
 have h:=val_append b (l.take k) (l.drop k)
 rw [List.take_append_drop,List.length_take,Nat.min_eq_left hk] at h
 exact h
theorem val_lt {b:Nat} {l:List Nat} (h:Digs b l):val b l<b ^ l.length:=by
 induction l with
 | nil=>simp [val]
 | cons d l ih=>
  have hd:d<b:=h d (by simp)
  have hl:=ih fun x hx=>h x (by simp [hx])
  rw [val_cons,List.length_cons,Nat.pow_succ,Nat.mul_comm _ b]
  have h2:b*(val b l+1)<=b*b ^ l.length:=Nat.mul_le_mul_left b hl
  rw [Nat.mul_add] at h2
  omega
theorem norm_nil:Norm []:=by intro d h;cases h
theorem norm_snoc {l:List Nat} {d:Nat} : Norm (l++[d])↔d≠0:=by
 unfold Norm
 rw [List.getLast?_append]
 simp
theorem snoc_of {l:List Nat} (h:l≠[]):∃ m d,l=m++[d]:=⟨l.dropLast,l.getLast h,(List.dropLast_concat_getLast h).symm⟩
theorem val_ge {b:Nat} {l:List Nat} (hn:Norm l) (hl:l≠[]):b ^ (l.length-1)<=val b l:=by
 obtain ⟨m,d,rfl⟩:=snoc_of hl
 have hd:=norm_snoc.1 hn
 rw [val_snoc,List.length_append,List.length_singleton,Nat.add_sub_cancel]
 have:b ^ m.length*1<=b ^ m.length*d:=Nat.mul_le_mul_left _ (by omega)
 omega
theorem val_pos {b:Nat} (hb:0<b) {l:List Nat} (hn:Norm l) (hl:l≠[]):0<val b l :=
 Nat.lt_of_lt_of_le (Nat.pow_pos hb) (val_ge hn hl)
theorem len_le {b K:Nat} (hb:1<b) {l:List Nat} (hn:Norm l) (hv:val b l<b ^ K):l.length<=K:=by
 rcases Classical.em (l=[]) with rfl | e
 ·simp
 ·have h:=val_ge (b:=b) hn e
  have h2:b ^ (l.length-1)<b ^ K:=Nat.lt_of_le_of_lt h hv
  have h3:=(Nat.pow_lt_pow_iff_right hb).1 h2
  omega
theorem val_lt_of_len {b:Nat} (hb:1<b) {l m:List Nat} (hl:Digs b l) (hm:Norm m) (h:l.length<m.length):val b l<val b m:=by
 have hne:m≠[]:=by intro e;rw [e] at h;simp at h
 have h1:=val_lt hl
 have h2:=val_ge (b:=b) hm hne
 have h3:b ^ l.length<=b ^ (m.length-1):=Nat.pow_le_pow_right (by omega) (by omega)
 omega
theorem val_lt_of_digit {b:Nat} {l m:List Nat} {k:Nat} (hl:Digs b l) (hk:k<l.length) (hk':k<m.length)
  (ht:l.drop (k+1)=m.drop (k+1)) (h:l.getD k 0<m.getD k 0):val b l<val b m:=by
 rw [val_split b l (k+1) hk,val_split b m (k+1) hk',ht,val_take_succ,val_take_succ]
 have h1:=val_lt (hl.take k)
 rw [List.length_take,Nat.min_eq_left (by omega)] at h1
 have h2:b ^ k*(l.getD k 0+1)<=b ^ k*m.getD k 0:=Nat.mul_le_mul_left _ h
 rw [Nat.mul_add] at h2
 omega
theorem drop_eq_step {l m:List Nat} {k:Nat} (hk:k<l.length) (hk':k<m.length) (ht:l.drop (k+1)=m.drop (k+1)) (h:l.getD k 0=m.getD k 0):l.drop k=m.drop k:=by
 rw [List.drop_eq_getElem_cons hk,List.drop_eq_getElem_cons hk',ht]
 rw [getD_get hk,getD_get hk'] at h
 rw [h]
def trim (l:List Nat):List Nat:=(l.reverse.dropWhile (· == 0)).reverse
theorem trim_snoc_zero (l:List Nat):trim (l++[0])=trim l:=by simp [trim]
theorem trim_snoc_pos (l:List Nat) {d:Nat} (h:d≠0):trim (l++[d])=l++[d]:=by simp [trim,h]
theorem snoc_induction {P:List Nat->Prop} (h0:P []) (h1:∀ l d,P l->P (l++[d])) (l:List Nat):P l:=by
 have:∀ n (l:List Nat),l.length=n->P l:=by
  intro n
  induction n with
  | zero=>intro l hl;rw [List.length_eq_zero_iff] at hl;subst hl;exact h0
  | succ n ih=>
   intro l hl
   obtain ⟨m,d,rfl⟩:=snoc_of (l:=l) (by intro e;subst e;simp at hl)
   exact h1 _ _ (ih m (by simpa using hl))
 exact this _ l rfl
theorem val_trim (b:Nat) (l:List Nat):val b (trim l)=val b l:=by
 refine snoc_induction (P:=fun l=>val b (trim l)=val b l) rfl ?_ l
 intro l d ih
 by_cases h:d=0
 ·subst h;rw [trim_snoc_zero,ih,val_snoc];simp
 ·rw [trim_snoc_pos l h]
theorem norm_trim (l:List Nat):Norm (trim l):=by
 refine snoc_induction (P:=fun l=>Norm (trim l)) norm_nil ?_ l
 intro l d ih
 by_cases h:d=0
 ·subst h;rw [trim_snoc_zero];exact ih
 ·rw [trim_snoc_pos l h];exact norm_snoc.2 h
theorem trim_prefix (l:List Nat):∃ k,k<=l.length/\trim l=l.take k:=by
 refine snoc_induction (P:=fun l=>∃ k,k<=l.length/\trim l=l.take k) ⟨0,by simp,rfl⟩ ?_ l
 intro l d ⟨k,hk,e⟩
 by_cases h:d=0
 ·subst h
  refine ⟨k,by simp;omega,?_⟩
  rw [trim_snoc_zero,e,List.take_append_of_le_length hk]
 ·exact ⟨l.length+1,by simp,by rw [trim_snoc_pos l h,List.take_of_length_le (by simp)]⟩
theorem digs_trim {b:Nat} {l:List Nat} (h:Digs b l):Digs b (trim l):=by
 obtain ⟨k,_,e⟩:=trim_prefix l
 rw [e];exact h.take k
theorem pow_split (P b t:Nat):P*(t%b)+P*b*(t/b)=P*t:=by
 rw [Nat.mul_assoc,<- Nat.mul_add,Nat.mod_add_div]
theorem sum_step {b:Nat} {os:List Nat} {c x y p q:Nat} (h:val b os+b ^ os.length*c=x+y) :
  val b (os++[(c+p+q)%b])+b ^ (os.length+1)*((c+p+q)/b)=(x+b ^ os.length*p)+(y+b ^ os.length*q):=by
 rw [val_snoc,Nat.pow_succ]
 have:=pow_split (b ^ os.length) b (c+p+q)
 rw [Nat.mul_add,Nat.mul_add] at this
 omega
theorem carry_le {b c p q:Nat} (hc:c<=1) (hp:p<b) (hq:q<b):(c+p+q)/b<=1:=by
 have:(c+p+q)/b<2:=by
  rw [Nat.div_lt_iff_lt_mul (by omega)];omega
 omega
end Go.Proofs.YtbfbgappinilmaaGreatDoor.Limb
namespace Go.Proofs.YtbfbgappinilmaaGreatDoor.Limb
theorem val_set (b:Nat) (l:List Nat) (k d:Nat) (hk:k<l.length):val b (l.set k d)+b ^ k*l.getD k 0=val b l+b ^ k*d:=by
 induction l generalizing k with
 | nil=>simp at hk
 | cons e l ih=>
  cases k with
  | zero=>simp [val];omega
  | succ k=>
   have:=ih k (by simpa using hk)
   have e1:(e :: l).getD (k+1) 0=l.getD k 0:=by simp [List.getD_eq_getElem?_getD]
   rw [e1,List.set_cons_succ,val_cons,val_cons,Nat.pow_succ]
   have h2:=congrArg (b * ·) this
   simp only [Nat.mul_add] at h2
   have h3:b ^ k*b*l.getD k 0=b*(b ^ k*l.getD k 0):=by rw [Nat.mul_comm (b ^ k) b,Nat.mul_assoc]
   have h4:b ^ k*b*d=b*(b ^ k*d):=by rw [Nat.mul_comm (b ^ k) b,Nat.mul_assoc]
   omega
theorem Digs.set {b:Nat} {l:List Nat} (h:Digs b l) (k:Nat) {d:Nat} (hd:d<b):Digs b (l.set k d):=by
 intro x hx
 rcases List.mem_or_eq_of_mem_set hx with hx | rfl
 ·exact h x hx
 ·exact hd
theorem digs_zeros {b:Nat} (hb:0<b) (n:Nat):Digs b (List.replicate n 0):=by
 intro x hx
 have:=List.eq_of_mem_replicate hx
 omega
theorem val_zeros (b n:Nat):val b (List.replicate n 0)=0:=by
 induction n with
 | zero=>rfl
 | succ n ih=>rw [List.replicate_succ,val_cons,ih];simp
theorem getD_set_other {l:List Nat} {k j d:Nat} (h:j≠k):(l.set k d).getD j 0=l.getD j 0:=by
 rw [List.getD_eq_getElem?_getD,List.getD_eq_getElem?_getD,List.getElem?_set]
 rw [if_neg (by omega)]
def dig (b br p q:Nat):Nat:=if p<br+q then p+b-br-q else p-br-q
def bor (br p q:Nat):Nat:=if p<br+q then 1 else 0
theorem dig_lt {b br p q:Nat} (hbr:br<=1) (hp:p<b) (hq:q<b):dig b br p q<b:=by
 unfold dig;split<;>omega
theorem bor_le (br p q:Nat):bor br p q<=1:=by unfold bor;split<;>omega
theorem dig_bor {b br p q:Nat} (hbr:br<=1) (_hp:p<b) (hq:q<b):dig b br p q+(br+q)=p+b*bor br p q:=by
 unfold dig bor;split<;>simp<;>omega
theorem diff_step {b:Nat} {os:List Nat} {br x y p q:Nat} (h:x+b ^ os.length*br=val b os+y) (hbr:br<=1) (hp:p<b) (hq:q<b) :
  (x+b ^ os.length*p)+b ^ (os.length+1)*bor br p q=val b (os++[dig b br p q])+(y+b ^ os.length*q):=by
 rw [val_snoc,Nat.pow_succ]
 have e:=congrArg (b ^ os.length * ·) (dig_bor hbr hp hq)
 simp only [Nat.mul_add] at e
 rw [<- Nat.mul_assoc] at e
 omega
theorem diff_end {b:Nat} {os:List Nat} {br x y:Nat} (h:x+b ^ os.length*br=val b os+y) (hd:Digs b os) (hle:y<=x):val b os=x-y:=by
 have h1:=val_lt hd
 rcases Nat.eq_zero_or_pos br with h0 | h0
 ·subst h0;simp at h;omega
 ·have:b ^ os.length*1<=b ^ os.length*br:=Nat.mul_le_mul_left _ h0
  omega
theorem mul_step {b:Nat} {os:List Nat} {j c m z:Nat} (hj:j<os.length) (h:val b os+b ^ j*c=z) :
  val b (os.set j ((c+os.getD j 0+m)%b))+b ^ (j+1)*((c+os.getD j 0+m)/b)=z+b ^ j*m:=by
 have h1:=val_set b os j ((c+os.getD j 0+m)%b) hj
 have h2:=pow_split (b ^ j) b (c+os.getD j 0+m)
 rw [Nat.pow_succ]
 rw [Nat.mul_add,Nat.mul_add] at h2
 omega
theorem mul_carry {b c o x y:Nat} (hc:c<b) (ho:o<b) (hx:x<b) (hy:y<b):(c+o+x*y)/b<b:=by
 rw [Nat.div_lt_iff_lt_mul (by omega)]
 have h1:x*y<=(b-1)*(b-1):=Nat.mul_le_mul (by omega) (by omega)
 obtain ⟨e,rfl⟩:∃ e,b=e+1:=⟨b-1,by omega⟩
 simp only [Nat.add_sub_cancel] at h1
 simp only [Nat.add_mul,Nat.mul_add]
 omega
theorem or_pow {x j:Nat} (h:x%2 ^ (j+1)=0):x ||| 2 ^ j=x+2 ^ j:=by
 have h1:2 ^ j<2 ^ (j+1):=Nat.pow_lt_pow_right (by omega) (by omega)
 have h2:=Nat.two_pow_add_eq_or_of_lt h1 (x/2 ^ (j+1))
 have h3:=Nat.div_add_mod x (2 ^ (j+1))
 rw [h,Nat.add_zero] at h3
 rw [h3] at h2
 exact h2.symm
theorem or_bit {x c:Nat} (h:x%2=0) (hc:c<=1):x ||| c=x+c:=by
 have h1:c<2 ^ 1:=by omega
 have h2:=Nat.two_pow_add_eq_or_of_lt h1 (x/2)
 have h3:2 ^ 1*(x/2)=x:=by omega
 rw [h3] at h2
 exact h2.symm
theorem val_digit {b:Nat} (hb:0<b) {l:List Nat} (h:Digs b l) (k:Nat):val b l/b ^ k%b=l.getD k 0:=by
 induction l generalizing k with
 | nil=>simp [val]
 | cons d l ih=>
  have hd:d<b:=h d (by simp)
  cases k with
  | zero=>simp [val,Nat.mod_eq_of_lt hd]
  | succ k=>
   rw [val_cons,Nat.pow_succ,Nat.mul_comm (b ^ k) b,<- Nat.div_div_eq_div_mul,Nat.add_mul_div_left _ _ hb,Nat.div_eq_of_lt hd,Nat.zero_add,ih (fun x hx=>h x (by simp [hx]))]
   simp [List.getD_eq_getElem?_getD]
theorem val_bit {l:List Nat} (h:Digs (2 ^ 32) l) (i:Nat):l.getD (i/32) 0/2 ^ (i%32)%2=val (2 ^ 32) l/2 ^ i%2:=by
 rw [<- val_digit (by decide) h (i/32)]
 have e:2 ^ i=(2 ^ 32) ^ (i/32)*2 ^ (i%32):=by
  rw [<- Nat.pow_mul,<- Nat.pow_add];congr 1;omega
 rw [e,<- Nat.div_div_eq_div_mul]
 generalize val (2 ^ 32) l/(2 ^ 32) ^ (i/32)=v
 have hlt:i%32<32:=Nat.mod_lt _ (by omega)
 have e2:2 ^ 32=2 ^ (i%32)*2 ^ (32-i%32):=by rw [<- Nat.pow_add];congr 1;omega
 rw [e2,Nat.mod_mul_right_div_self]
 have e3:2 ^ (32-i%32)=2*2 ^ (31-i%32):=by rw [<- Nat.pow_succ'];congr 1;omega
 rw [e3,Nat.mod_mul_right_mod]
theorem div_step {A i Q b r t:Nat} (h:A/2 ^ (i+1)=t*b+r) (hQ:Q=2 ^ (i+1)*t) :
  A/2 ^ i=2*t*b+(2*r+A/2 ^ i%2)/\Q=2 ^ i*(2*t):=by
 refine ⟨?_,by rw [hQ,Nat.pow_succ,Nat.mul_assoc]⟩
 have h1:A/2 ^ i/2=t*b+r:=by rw [Nat.div_div_eq_div_mul,<- Nat.pow_succ];exact h
 have h2:2*t*b=2*(t*b):=Nat.mul_assoc _ _ _
 omega
theorem word_low {q:List Nat} {i t:Nat} (h:Digs (2 ^ 32) q) (hQ:val (2 ^ 32) q=2 ^ (i+1)*t):q.getD (i/32) 0%2 ^ (i%32+1)=0:=by
 rw [<- val_digit (by decide) h (i/32),hQ]
 have e:2 ^ (i+1)*t=(2 ^ 32) ^ (i/32)*(2 ^ (i%32+1)*t):=by
  rw [<- Nat.mul_assoc,<- Nat.pow_mul,<- Nat.pow_add];congr 2;omega
 rw [e,Nat.mul_div_cancel_left _ (Nat.pow_pos (by decide))]
 have hlt:i%32<32:=Nat.mod_lt _ (by omega)
 have e2:2 ^ 32=2 ^ (i%32+1)*2 ^ (31-i%32):=by rw [<- Nat.pow_add];congr 1;omega
 rw [e2,Nat.mul_mod_mul_left,Nat.mul_mod_right]
theorem set_bit {q:List Nat} {i t:Nat} (h:Digs (2 ^ 32) q) (hQ:val (2 ^ 32) q=2 ^ (i+1)*t) (hi:i/32<q.length) :
  val (2 ^ 32) (q.set (i/32) (q.getD (i/32) 0 ||| 2 ^ (i%32)))=2 ^ i*(2*t+1):=by
 rw [or_pow (word_low h hQ)]
 have h1:=val_set (2 ^ 32) q (i/32) (q.getD (i/32) 0+2 ^ (i%32)) hi
 rw [Nat.mul_add,<- Nat.pow_mul,<- Nat.pow_add] at h1
 have e:32*(i/32)+i%32=i:=by omega
 rw [e,hQ] at h1
 have e2:2 ^ (i+1)*t=2 ^ i*(2*t):=by rw [Nat.pow_succ,Nat.mul_assoc]
 rw [e2] at h1
 rw [Nat.mul_add,Nat.mul_one]
 generalize 2 ^ i*(2*t)=X at *
 generalize 2 ^ i=Y at *
 omega
theorem or_lt {x j:Nat} (h:x<2 ^ 32) (hj:j<32):x ||| 2 ^ j<2 ^ 32:=Nat.or_lt_two_pow h (Nat.pow_lt_pow_right (by omega) hj)
end Go.Proofs.YtbfbgappinilmaaGreatDoor.Limb
namespace Go.Proofs.YtbfbgappinilmaaGreatDoor
open Go.RowKit Limb
def dg (l:List Nat) (k:Nat):Nat:=l.getD k 0
theorem dg_lt {b:Nat} {l:List Nat} (h:Digs b l) (hb:0<b) (k:Nat):dg l k<b:=h.getD hb k
theorem dg_out {l:List Nat} {k:Nat} (h:l.length<=k):dg l k=0:=by
 unfold dg;rw [List.getD_eq_getElem?_getD,List.getElem?_eq_none h];rfl
theorem dg_get {l:List Nat} {k:Nat} (h:k<l.length):l[k]?=some (dg l k):=by
 unfold dg;rw [List.getD_eq_getElem?_getD,List.getElem?_eq_getElem h];rfl
def digV (K:IntKind) (l:List Nat):List Value:=l.map fun d=>.int K ((d:Nat):Int)
theorem digV_length (K:IntKind) (l:List Nat):(digV K l).length=l.length:=by simp [digV]
theorem digV_snoc (K:IntKind) (l:List Nat) (d:Nat):digV K (l++[d])=digV K l++[.int K ((d:Nat):Int)]:=by simp [digV]
theorem digV_get (K:IntKind) {l:List Nat} {k:Nat} (h:k<l.length):(digV K l)[k]?=some (.int K ((dg l k:Nat):Int)):=by
 simp [digV,dg_get h]
theorem digV_set (K:IntKind) (l:List Nat) (k d:Nat):digV K (l.set k d)=(digV K l).set k (.int K ((d:Nat):Int)):=by simp [digV,List.map_set]
theorem digV_one (K:IntKind) (l:List Nat):∀ u∈digV K l,u.oneCell'=true:=by
 intro u hu
 simp only [digV,List.mem_map] at hu
 obtain ⟨d,_,rfl⟩:=hu
 rfl
def Dig (w:World) (K:IntKind) (E:TypeId) (A:Option Addr) (n:Nat) (l:List Nat):Prop :=
 l.length=n/\(0<n->∃ (g:Nat) (cs:Array Value),A=some ⟨g,0,none⟩/\w.heap[g]?=some (.cells cs E (0,0))/\∀ j,j<n->cs[j]?=some (.int K ((dg l j:Nat):Int)))
theorem lt_heap {w:World} {g:Nat} {o:Obj} (h:w.heap[g]?=some o):g<w.heap.size:=by
 rcases Nat.lt_or_ge g w.heap.size with hlt | hge
 ·exact hlt
 ·rw [Array.getElem?_eq_none hge] at h;cases h
theorem heap_ne {w:World} {g g':Nat} {cs cs':Array Value} {T T':TypeId} {f f':Nat×Nat} (h:w.heap[g]?=some (.cells cs T f)) (h':w.heap[g']?=some (.cells cs' T' f')) (hne:T≠T'):g≠g':=by
 rintro rfl
 rw [h] at h'
 injection h' with h'
 injection h' with _ ht
 exact hne ht
theorem heap_set {w:World} {g:Nat} {cs:Array Value} {T:TypeId} (h:w.heap[g]?=some (.cells cs T (0,0))) (i:Nat) (u:Value):(w.setCell ⟨g,i,none⟩ u).heap[g]?=some (.cells (cs.setIfInBounds i u) T (0,0)):=by
 simp [World.setCell,Array.getElem?_modify,h]
theorem heap_far {w:World} {g:Nat} {o:Obj} (h:w.heap[g]?=some o) {p:Addr} (hp:g≠p.block) (u:Value):(w.setCell p u).heap[g]?=some o:=(Below.heap_setCell w p u g hp).trans h
theorem heap_old {w:World} {g:Nat} {o:Obj} (h:w.heap[g]?=some o) (o':Obj):(w.alloc o').heap[g]?=some o:=(Below.heap_alloc w o' g (lt_heap h)).trans h
theorem heap_new (w:World) (o:Obj) {g:Nat} (hg:g=w.heap.size):(w.alloc o).heap[g]?=some o:=by subst hg;exact heap_alloc_new w o
theorem heap_below {w w':World} {g:Nat} {o:Obj} (h:w.heap[g]?=some o) (hb:Below w.heap.size w w'):w'.heap[g]?=some o:=(hb.block g (lt_heap h)).trans h
theorem box2 {w:World} {g:Nat} {x y:Value} {T:TypeId} (h:w.heap[g]?=some (.cells #[x,y] T (0,0))) :
  w.cell? ⟨g,0,none⟩=some x/\w.cell? ⟨g,1,none⟩=some y/\w.frozen? ⟨g,0,none⟩=false/\w.frozen? ⟨g,1,none⟩=false/\g<w.heap.size :=
 ⟨cell_of_row w g 0 _ _ _ h,cell_of_row w g 1 _ _ _ h,by simp [World.frozen?,h],by simp [World.frozen?,h],lt_heap h⟩
theorem cell_past2 {w:World} {g h i:Nat} {x u v:Value} (hc:w.cell? ⟨g,i,none⟩=some x) (hne:g≠h):((w.setCell ⟨h,0,none⟩ u).setCell ⟨h,1,none⟩ v).cell? ⟨g,i,none⟩=some x:=by
 rw [World.cell?_setCell_other _ _ _ _ (by intro e;injection e;omega),World.cell?_setCell_other _ _ _ _ (by intro e;injection e;omega)]
 exact hc
theorem boxes3 (w:World) (x0 x1 y0 y1 z0 z1:Value) (T U V:TypeId):∀ w3,((w.alloc (.cells #[x0,x1] T)).alloc (.cells #[y0,y1] U)).alloc (.cells #[z0,z1] V)=w3 ->
  w3.heap[w.heap.size]?=some (.cells #[x0,x1] T (0,0))/\w3.heap[w.heap.size+1]?=some (.cells #[y0,y1] U (0,0))/\w3.heap[w.heap.size+1+1]?=some (.cells #[z0,z1] V (0,0))/\Below w.heap.size w w3:=by
 intro w3 hw
 subst hw
 exact ⟨heap_old (heap_old (heap_new _ _ rfl) _) _,heap_old (heap_new _ _ (by simp)) _,heap_new _ _ (by simp),(((Below.refl _ _).alloc (Nat.le_refl _) _).alloc (by simp) _).alloc (by simp;omega) _⟩
theorem boxes2 (w:World) (x0 x1 z0 z1:Value) (T V:TypeId):∀ w3,(w.alloc (.cells #[x0,x1] T)).alloc (.cells #[z0,z1] V)=w3 ->
  w3.heap[w.heap.size]?=some (.cells #[x0,x1] T (0,0))/\w3.heap[w.heap.size+1]?=some (.cells #[z0,z1] V (0,0))/\Below w.heap.size w w3:=by
 intro w3 hw
 subst hw
 exact ⟨heap_old (heap_new _ _ rfl) _,heap_new _ _ (by simp),((Below.refl _ _).alloc (Nat.le_refl _) _).alloc (by simp) _⟩
section
variable {w w':World} {K:IntKind} {E:TypeId} {A:Option Addr} {n:Nat} {l:List Nat}
theorem Dig.len (h:Dig w K E A n l):l.length=n:=h.1
theorem Dig.keep (h:Dig w K E A n l) (hk:∀ (g:Nat) (cs:Array Value),w.heap[g]?=some (.cells cs E (0,0))->w'.heap[g]?=some (.cells cs E (0,0))):Dig w' K E A n l :=
 ⟨h.1,fun hn=>by
  obtain ⟨g,cs,e,hg,hc⟩:=h.2 hn
  exact ⟨g,cs,e,hk g cs hg,hc⟩⟩
theorem Dig.below (h:Dig w K E A n l) (hb:Below w.heap.size w w'):Dig w' K E A n l:=h.keep fun _ _ hg=>heap_below hg hb
theorem Dig.alloc (h:Dig w K E A n l) (o:Obj):Dig (w.alloc o) K E A n l:=h.keep fun _ _ hg=>heap_old hg o
theorem Dig.drew (h:Dig w K E A n l):Dig w.drew K E A n l:=h
theorem Dig.far (h:Dig w K E A n l) {g i:Nat} {cs:Array Value} {T:TypeId} {f:Nat×Nat} (hB:w.heap[g]?=some (.cells cs T f)) (hne:E≠T) (u:Value):Dig (w.setCell ⟨g,i,none⟩ u) K E A n l :=
 h.keep fun _ _ hg=>heap_far hg (heap_ne hg hB hne) u
theorem Dig.at_ (h:Dig w K E A n l) (hn:0<n):∃ g,A=some ⟨g,0,none⟩/\g<w.heap.size/\∀ j,j<n->w.cell? ⟨g,j,none⟩=some (.int K ((dg l j:Nat):Int)):=by
 obtain ⟨g,cs,e,hg,hc⟩:=h.2 hn
 exact ⟨g,e,lt_heap hg,fun j hj=>(cell_of_row w g j cs E (0,0) hg).trans (hc j hj)⟩
theorem Dig.take {k:Nat} (h:Dig w K E A n l) (hk:k<=n):Dig w K E A k (l.take k):=by
 refine ⟨by rw [List.length_take,h.1];omega,fun h0=>?_⟩
 obtain ⟨g,cs,e,hg,hc⟩:=h.2 (by omega)
 refine ⟨g,cs,e,hg,fun j hj=>?_⟩
 have e2:dg (l.take k) j=dg l j:=by
  unfold dg
  rw [List.getD_eq_getElem?_getD,List.getD_eq_getElem?_getD,List.getElem?_take,if_pos hj]
 rw [e2]
 exact hc j (by omega)
theorem Dig.of_own {base:Nat} {c:Nat} {A:Option Addr} (h:w.ownsRow base E 1 (.slice A n c) n (digV K l)):Dig w K E A n l:=by
 have hl:l.length=n:=by have:=h.1;rw [digV_length] at this;omega
 refine ⟨hl,fun h0=>?_⟩
 rcases h.2 with ⟨hv,hn⟩|⟨g,cap,cur,hv,_,hh,_,_,_,ht⟩
 ·omega
 ·injection hv with hA _ hcap
  subst hA
  refine ⟨g,cur,rfl,hh,fun j hj=>?_⟩
  have:=digV_get K (l:=l) (k:=j) (by omega)
  rw [<- ht,List.getElem?_take,if_pos (by omega)] at this
  simpa using this
theorem own_cap {base:Nat} {e:TypeId} {size c:Nat} {A:Option Addr} {xs:List Value} (h:w.ownsRow base e size (.slice A n c) n xs):n<=c/\c<=maxLen:=by
 rcases h.2 with ⟨hv,hn⟩|⟨g,cap,cur,hv,_,_,h1,h2,_⟩
 ·injection hv with _ _ hc
  subst hc;subst hn
  exact ⟨Nat.le_refl _,by unfold maxLen;omega⟩
 ·injection hv with _ _ hc
  subst hc
  exact ⟨h1,h2⟩
theorem own_slice {base:Nat} {e:TypeId} {size:Nat} {v:Value} {xs:List Value} (h:w.ownsRow base e size v n xs):∃ A c,v=.slice A n c:=by
 rcases h.2 with ⟨hv,hn⟩|⟨g,cap,cur,hv,_⟩
 ·subst hn;exact ⟨_,_,hv⟩
 ·exact ⟨_,_,hv⟩
end
def B32:Nat:=4294967296
def sg (neg:Bool) (n:Nat):Int:=if neg then -(n:Int) else n
def Big (K:IntKind) (E:TypeId) (b:Nat) (w:World) (s:Bool) (A:Option Addr) (n c:Nat) (z:Int):Prop :=
 ∃ l,Dig w K E A n l/\n<=c/\c<=maxLen/\Digs b l/\Norm l/\(s=true->l≠[])/\z=sg s (val b l)
section
variable {K:IntKind} {E:TypeId} {b:Nat} {w w':World} {s:Bool} {A:Option Addr} {n c:Nat} {z:Int}
theorem Big.below (h:Big K E b w s A n c z) (hb:Below w.heap.size w w'):Big K E b w' s A n c z:=by
 obtain ⟨l,hd,r⟩:=h
 exact ⟨l,hd.below hb,r⟩
theorem Big.drew (h:Big K E b w s A n c z):Big K E b w.drew s A n c z:=h
theorem Big.alloc (h:Big K E b w s A n c z) (o:Obj):Big K E b (w.alloc o) s A n c z:=by
 obtain ⟨l,hd,r⟩:=h
 exact ⟨l,hd.alloc o,r⟩
theorem Big.far (h:Big K E b w s A n c z) {g i:Nat} {cs:Array Value} {T:TypeId} {f:Nat×Nat} (hB:w.heap[g]?=some (.cells cs T f)) (hne:E≠T) (u:Value):Big K E b (w.setCell ⟨g,i,none⟩ u) s A n c z:=by
 obtain ⟨l,hd,r⟩:=h
 exact ⟨l,hd.far hB hne u,r⟩
theorem Big.box2 (h:Big K E b w s A n c z) {g:Nat} {cs:Array Value} {T:TypeId} (hB:w.heap[g]?=some (.cells cs T (0,0))) (hne:E≠T) (u v:Value) :
  Big K E b ((w.setCell ⟨g,0,none⟩ u).setCell ⟨g,1,none⟩ v) s A n c z:=(h.far hB hne u).far (heap_set hB 0 u) hne v
end
def Makes (K:IntKind) (E:TypeId) (b:Nat) (w:World) (z:Int) (e:Ending) (w':World):Prop :=
 ∃ s A n c,e=.returned (.agg #[.bool s,.slice A n c])/\Big K E b w' s A n c z/\Below w.heap.size w w'
theorem below_then {B:Nat} {w W w1:World} (hb:Below W.heap.size W w1) (h:Below B w W) (hB:B<=W.heap.size):Below B w w1:=h.trans (hb.mono hB)
theorem sg_natAbs (neg:Bool) (n:Nat):(sg neg n).natAbs=n:=by unfold sg;split<;>omega
theorem len_of_lt {b:Nat} {l:List Nat} {neg:Bool} {K:Nat} (hb:1<b) (hn:Norm l) (h:(sg neg (val b l)).natAbs<b ^ K):l.length<=K:=by
 rw [sg_natAbs] at h
 exact len_le hb hn h
def Small (z:Int):Prop:=z.natAbs<10 ^ 200
theorem small_len32 {l:List Nat} {neg:Bool} (hn:Norm l) (h:Small (sg neg (val B32 l))):l.length<=200 :=
 len_of_lt (K:=200) (by decide) hn (Nat.lt_of_lt_of_le h (Nat.pow_le_pow_left (by decide) _))
theorem own_take {w:World} {base:Nat} {E:TypeId} {K:IntKind} {A:Option Addr} {n c k:Nat} {l:List Nat} (h:w.ownsRow base E 1 (.slice A n c) n (digV K l)) (hk:k<=n):w.ownsRow base E 1 (.slice A k c) k (digV K (l.take k)):=by
 unfold digV at *
 have hl:=h.1
 rw [List.length_map] at hl
 refine ⟨by rw [List.length_map,List.length_take];omega,?_⟩
 rcases h.2 with ⟨hv,hn⟩|⟨g,cap,cur,hv,hb,hh,h1,h2,h3,h4⟩
 ·injection hv with a1 a2 a3
  subst a1;subst a3
  exact .inl ⟨by rw [show k=0 by omega],by omega⟩
 ·injection hv with a1 a2 a3
  subst a1;subst a3
  refine .inr ⟨g,c,cur,rfl,hb,hh,by omega,h2,h3,?_⟩
  rw [List.map_take,<- h4,List.take_take]
  congr 1
  omega
theorem own_mono {w:World} {base base':Nat} {E:TypeId} {size n:Nat} {v:Value} {xs:List Value} (h:w.ownsRow base E size v n xs) (hb:base'<=base):w.ownsRow base' E size v n xs:=by
 refine ⟨h.1,?_⟩
 rcases h.2 with hn | ⟨g,cap,cur,hv,hg,r⟩
 ·exact .inl hn
 ·exact .inr ⟨g,cap,cur,hv,Nat.le_trans hb hg,r⟩
theorem own_below {w w':World} {base:Nat} {E:TypeId} {size n:Nat} {v:Value} {xs:List Value} (h:w.ownsRow base E size v n xs) (hb:Below w.heap.size w w'):w'.ownsRow base E size v n xs:=by
 refine ⟨h.1,?_⟩
 rcases h.2 with hn | ⟨g,cap,cur,hv,hg,hh,r⟩
 ·exact .inl hn
 ·exact .inr ⟨g,cap,cur,hv,hg,heap_below hh hb,r⟩
theorem own_far {w:World} {base:Nat} {E:TypeId} {size n c g:Nat} {xs:List Value} (h:w.ownsRow base E size (.slice (some ⟨g,0,none⟩) n c) n xs) {a:Addr} (ha:g≠a.block) (u:Value):(w.setCell a u).ownsRow base E size (.slice (some ⟨g,0,none⟩) n c) n xs :=
 ownsRow_setCell_other h (by simp [Value.ownBlock];exact ha) u
theorem grown_alloc {w w':World} {o:Obj} {row:Option Nat} (h:(w.alloc o).grownBy w' row):w.grownBy w' row :=
 ⟨h.os,h.tape,h.output,Nat.le_trans (by simp) h.size,fun k hk hne=>(h.block k (by simp;omega) hne).trans (Below.heap_alloc w o k hk)⟩
theorem one_cell (w:World) (u:Value) (t:TypeId):∀ j x,[u][j]?=some x->(w.alloc (.cells #[u] t)).cell? ((⟨w.heap.size,0,none⟩:Addr).add j)=some x:=by
 intro j x hj
 match j,hj with
 | 0,hj=>simp at hj;subst hj;simp [Addr.add]
theorem wpList_push_fits {P:Program} {w:World} {ops:Array Oper} {rest:List Oper} {o:Oper} {a:Act} {Q:Exit->Act->World->Prop}
  (hg:o.guard=none) (s x:Operand) (t:TypeId) (hop:o.op=Op.call { callee:=Callee.builtin Builtin.append,args:=#[s,x],argTypes:=#[t,t] })
  (base:Nat) (e:TypeId) (i:TypeInfo) (h1:P.underlying t=some (.slice e)) (h2:P.info? e=some i) (h4:i.size=1)
  (g k cap:Nat) (xs:List Value) (hs:a.eval s=.slice (some ⟨g,0,none⟩) k cap) (hown:w.ownsRow base e 1 (.slice (some ⟨g,0,none⟩) k cap) k xs) (u:Value) (hx:a.eval x=.slice (some ⟨w.heap.size,0,none⟩) 1 1)
  (h1c:u.oneCell'=true) (b1:k+1<=cap)
  (hK:∀ w',w'.ownsRow base e 1 (.slice (some ⟨g,0,none⟩) (k+1) cap) (k+1) (xs++[u])->w.grownBy w' (some g)->wpList P ops Q rest (a.put o.dst (.slice (some ⟨g,0,none⟩) (k+1) cap)) w') :
  wpList P ops Q (o :: rest) a (w.alloc (.cells #[u] e)) :=
 wpList_append_fits _ hg s x t hop base e i 1 h1 h2 h4 g k cap xs hs (hown.alloc _) ⟨w.heap.size,0,none⟩ 1 1 [u] hx rfl (one_cell w u e) (by intro v hv;simp at hv;subst hv;exact h1c) b1 fun w' r1 r2=>hK w' r1 (grown_alloc r2)
theorem wpList_push_own {P:Program} {w:World} {ops:Array Oper} {rest:List Oper} {o:Oper} {a:Act} {Q:Exit->Act->World->Prop}
  (hg:o.guard=none) (s x:Operand) (t:TypeId) (hop:o.op=Op.call { callee:=Callee.builtin Builtin.append,args:=#[s,x],argTypes:=#[t,t] })
  (base:Nat) (e:TypeId) (i:TypeInfo) (z:Value) (bytes:Nat) (h1:P.underlying t=some (.slice e)) (h2:P.info? e=some i) (hz:i.zero=some z) (h4:i.size=1) (hby:i.bytes=bytes) (hzs:z.cells.size=1)
  (v:Value) (n:Nat) (xs:List Value) (hs:a.eval s=v) (hown:w.ownsRow base e 1 v n xs) (u:Value) (hx:a.eval x=.slice (some ⟨w.heap.size,0,none⟩) 1 1)
  (h1c:u.oneCell'=true) (b1:n+1<=maxLen) (b2:(n+1)*bytes<=140737488355328) (hbase:base<=w.heap.size)
  (hK:∀ A c w',w'.ownsRow base e 1 (.slice A (n+1) c) (n+1) (xs++[u])->w.grownBy w' v.ownBlock->wpList P ops Q rest (a.put o.dst (.slice A (n+1) c)) w') :
  wpList P ops Q (o :: rest) a (w.alloc (.cells #[u] e)) :=
 wpList_append_own _ hg s x t hop base e i z 1 bytes h1 h2 hz h4 hby hzs (by omega) v n xs hs (hown.alloc _) ⟨w.heap.size,0,none⟩ 1 1 [u] hx rfl (one_cell w u e) (by intro v hv;simp at hv;subst hv;exact h1c) b1 b2 (by simp;omega) fun v' w' r1 r2 _=>by
  obtain ⟨A,c,rfl⟩:=own_slice r1
  exact hK A c w' r1 (grown_alloc r2)
theorem dig_two (w:World) {K:IntKind} {X Y:Int} {x y:Nat} {g:Nat} (t:TypeId) (hg:g=w.heap.size) (hx:X=(x:Int)) (hy:Y=(y:Int)) :
  Dig (w.alloc (.cells #[.int K X,.int K Y] t)) K t (some ⟨g,0,none⟩) 2 [x,y]:=by
 subst hx;subst hy;subst hg
 refine ⟨rfl,fun _=>⟨_,_,rfl,heap_new w _ rfl,fun j hj=>?_⟩⟩
 match j,hj with
 | 0,_=>rfl
 | 1,_=>rfl
theorem limb0 (m:Nat):(m:Int)%4294967296=((m%B32:Nat):Int):=by unfold B32;omega
theorem limb1 {m:Nat} (h:m<=9223372036854775808):(m:Int)/4294967296%4294967296=((m/B32:Nat):Int):=by unfold B32;omega
theorem limb1' (m:Nat):(m:Int)/4294967296=((m/B32:Nat):Int):=by unfold B32;omega
theorem digs_limbs {m:Nat} (h:m<=9223372036854775808):Digs B32 [m%B32,m/B32]:=by
 intro d hd
 unfold B32 at *
 simp at hd
 omega
theorem val_two {b x y:Nat} : val b [x,y]=x+b*y:=by simp [val]
theorem val_limbs (m:Nat):val B32 [m%B32,m/B32]=m:=by rw [val_two,Nat.mod_add_div]
end Go.Proofs.YtbfbgappinilmaaGreatDoor
