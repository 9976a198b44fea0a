/- Times makes a field: a to the power 2^128 is a, and what is not zero has an inverse. Plain arithmetic. -/
import Derived.Test.YtfchbodbkdkcfaaAlg
namespace Go.Proofs.Ytfchbodbkdkcfaa.Frob
open Go.Proofs.Ytfchbodbkdkcfaa.Poly Go.Proofs.Ytfchbodbkdkcfaa.Alg

def sq (a : Nat) : Nat := tg a a
theorem sq_lin : Lin sq := ⟨fun a ha => tg_lt a a ha, fun a b ha hb => by
  unfold sq
  rw [tg_right, tg_left a b a ha hb, tg_left a b b ha hb, tg_comm b a hb ha]
  rw [show ∀ x y z : Nat, (x ^^^ y) ^^^ (y ^^^ z) = (x ^^^ z) ^^^ (y ^^^ y) from fun x y z => by ac_rfl, Nat.xor_self, Nat.xor_zero]⟩
theorem sq_mul (a b : Nat) (ha : a < 2 ^ 128) (hb : b < 2 ^ 128) : sq (tg a b) = tg (sq a) (sq b) := by
  have hab := tg_lt a b ha
  unfold sq
  rw [tg_assoc a b (tg a b) ha hb hab, ← tg_assoc b a b hb ha hb, tg_comm b a hb ha, tg_assoc a b b ha hb hb, ← tg_assoc a a (tg b b) ha ha (tg_lt b b hb)]
theorem it_mul : ∀ (n a b : Nat), a < 2 ^ 128 → b < 2 ^ 128 → it sq n (tg a b) = tg (it sq n a) (it sq n b)
  | 0, _, _, _, _ => rfl
  | n + 1, a, b, ha, hb => by
    rw [it, it, it, it_mul n a b ha hb]
    exact sq_mul _ _ ((sq_lin.iter n).lt a ha) ((sq_lin.iter n).lt b hb)
theorem sq_one : sq 1 = 1 := tg_one 1 (by decide)
theorem it_one : ∀ n, it sq n 1 = 1
  | 0 => rfl
  | n + 1 => by rw [it, it_one n, sq_one]
theorem horner_two : it (fun a => timesN a a 128) 128 2 = 2 := by decide +kernel
theorem it_horner : ∀ (n a : Nat), a < 2 ^ 128 → it (fun a => timesN a a 128) n a = it sq n a
  | 0, _, _ => rfl
  | n + 1, a, ha => by
    rw [it, it, it_horner n a ha]
    exact times_gm _ _ ((sq_lin.iter n).lt a ha)
theorem frob_two : it sq 128 2 = 2 := by rw [← it_horner 128 2 (by decide)]; exact horner_two
theorem frob_dbl (a : Nat) (ha : a < 2 ^ 128) : it sq 128 (dblN a) = dblN (it sq 128 a) := by
  rw [← tg_two a ha, it_mul 128 a 2 ha (by decide), frob_two, tg_two _ ((sq_lin.iter 128).lt a ha)]
theorem frob_pow : ∀ j, it sq 128 (it dblN j 1) = it dblN j 1
  | 0 => it_one 128
  | j + 1 => by
    show it sq 128 (dblN (it dblN j 1)) = dblN (it dblN j 1)
    rw [frob_dbl _ ((dbl_lin.iter j).lt 1 (by decide)), frob_pow j]
/-- a to the power 2^128 is a -/
theorem frob (a : Nat) (ha : a < 2 ^ 128) : it sq 128 a = a := by
  have e := as_sum (T := dblN) (u := 1) (ep := fun j => j) times_base a ha
  conv => lhs; rw [e]
  conv => rhs; rw [e]
  rw [(sq_lin.iter 128).xs (fun i hi => by
    split
    · exact (dbl_lin.iter _).lt 1 (by decide)
    · decide)]
  exact xs_congr fun i _ => by rw [(sq_lin.iter 128).ite, frob_pow]

/-! fixed points -/
def tab : List Nat := [
  54969562866131847669016652494142573320, 305526867633558886955404559995676324868, 305526867633558886955404559995676324870, 104469799312523126935073530960423461388,
  305526867633558886955404559995676324866, 56734434906695435454005472259553578602, 104469799312523126935073530960423461380, 271830150077582418345900040240152313368,
  305526867633558886955404559995676324882, 104470118804432205535668098632526617412, 56734434906695435454005472259553578570, 227145695117876428321601179286510436182,
  104469799312523126935073530960423461444, 305967500991204419130524647600360013666, 271830150077582418345900040240152313496, 227728627380917811012951187023350445606,
  305526867633558886955404559995676325138, 56815181714465587187729576693626853178, 104470118804432205535668098632526616900, 2537993204061707162883588357039153916,
  56734434906695435454005472259553577546, 3012428575888700110705650160495551628, 227145695117876428321601179286510434134, 275671395948664093117384310641479295528,
  104469799312523126935073530960423465540, 271915852323952067842399232303023203416, 305967500991204419130524647600360005474, 102998777379450204286412735627287799860,
  271830150077582418345900040240152297112, 272209106874770544727132909282711537316, 227728627380917811012951187023350412838, 135325830696997074197434372310186257282,
  305526867633558886955404559995676390674, 57232084741685004684866676497372669754, 56815181714465587187729576693626984250, 135411474552265958872087683058005180738,
  104470118804432205535668098632526879044, 275757512462385460142162890854388625828, 2537993204061707162883588357039678204, 274842411402277094064293402576501149528,
  56734434906695435454005472259554626122, 175382474467339210118195525752143821788, 3012428575888700110705650160497648780, 5261797816253387317062014170447638976,
  227145695117876428321601179286514628438, 272210066766835802062006483639670336468, 275671395948664093117384310641470906920, 225136856268418471551472419225175749014,
  104469799312523126935073530960440242756, 102164174349821125137969924442995585924, 271915852323952067842399232302989648984, 226936647763116174786496543602468507498,
  305967500991204419130524647600427114338, 305532029585887981283514747020026657774, 102998777379450204286412735627422017588, 133211003395652039953403666705387164366,
  271830150077582418345900040239883861656, 102148097239065330920971689869502701364, 272209106874770544727132909283248408228, 173139448164521758332819425568250980204,
  227728627380917811012951187022276671014, 305961988162602755697098987302884752222, 135325830696997074197434372312333740930, 175397880387343143921058595535091746080,
  305526867633558886955404559991381423378, 329634352286836299080082914081100, 57232084741685004684866676505962604346, 172705286512742171128536335012890908524,
  56815181714465587187729576710806853434, 303614986222712004812458293485509624930, 135411474552265958872087683023645442370, 170536380025231687221712635462198253856,
  104470118804432205535668098701246355780, 225051247907070202050589524227723711914, 275757512462385460142162890991827579300, 308170559265311564786252692292247708062,
  2537993204061707162883588082161771260, 102169133813289299704984590013427707636, 274842411402277094064293402026745335640, 303326766809063102477989677003176958226,
  56734434906695435454005473359066253898, 172841837191359616877872241477191677152, 175382474467339210118195523553120566236, 54888141419452711199816878900948880442,
  3012428575888700110705654558544159884, 307799342647640341558117533281787318686, 5261797816253387317062022966540661184, 273119276677551945356669168913118222868,
  227145695117876428321601196878700672854, 272311600527812781647585363233504111460, 272210066766835802062006518824042425300, 5181299727675599870287693023180209980,
  275671395948664093117384240272726729256, 305525142620375929691910208574098026146, 225136856268418471551472278487687393686, 307772801086609188417528170053220769746,
  104469799312523126935073249485463532100, 54596111748351997025280216654447342278, 102164174349821125137970487392949007236, 308164931596625094656266467235253809106,
  271915852323952067842398106403082806360, 227647953955287367714133036452945544742, 226936647763116174786494291802654822250, 308170555145571807541189819739699809694,
  305967500991204419130520144000799743842, 133105130754254600986622393405343152142, 305532029585887981283523754219281398766, 172410759080424577518324870893406614048,
  102998777379450204286394721228912535604, 54969320214588899006126198736319185926, 133211003395652039953439695502406128334, 227375442280390979429973553919662004774,
  271830150077582418345827982645845933720, 4955917326648230773508684280683823104, 102148097239065330921115805057578557236, 172885700256406002458384310923462859152,
  272209106874770544726844678907096696484, 56538291399058816093646072645906817530, 173139448164521758332242964815947556716, 55418003596362017635628740176384579466,
  227728627380917811014104108526883517990, 0, 305961988162602755699404830312098446174, 178356100567250831900639352525185366892,
  135325830696997074202046058330761128834, 189481146061086134017106552491789565356, 175397880387343143911835223498236970272, 75361565302940573017734093940626417402]
def unN (v : Nat) : Nat := xs 128 fun i => if v.testBit i then tab.getD i 0 else 0
theorem tab_lt : ∀ i, i < 128 → tab.getD i 0 < 2 ^ 128 := by decide +kernel
theorem un_lin : Lin unN := ⟨fun a _ => xs_lt fun i hi => by
    split
    · exact tab_lt i hi
    · decide, fun a b _ _ => by
  unfold unN
  rw [← xs_xor]
  exact xs_congr fun j _ => by
    rw [Nat.testBit_xor]
    cases a.testBit j <;> cases b.testBit j <;> simp⟩
theorem un_base : ∀ j, j < 128 → unN (timesN (2 ^ j) (2 ^ j) 128 ^^^ 2 ^ j) = if j = 0 then 0 else 2 ^ j := by decide +kernel
theorem un_sq (e : Nat) (he : e < 2 ^ 128) : unN (sq e ^^^ e) = xs 128 fun j => if e.testBit j then (if j = 0 then 0 else 2 ^ j) else 0 := by
  have lin : Lin fun v => sq v ^^^ v := ⟨fun a ha => Nat.xor_lt_two_pow (sq_lin.lt a ha) ha, fun a b ha hb => by
    show sq (a ^^^ b) ^^^ (a ^^^ b) = (sq a ^^^ a) ^^^ (sq b ^^^ b)
    rw [sq_lin.xor a b ha hb]; ac_rfl⟩
  have pw : ∀ i, i < 128 → (if e.testBit i then 2 ^ i else 0) < 2 ^ 128 := fun i hi => by
    split
    · exact Nat.pow_lt_pow_right (by decide) hi
    · decide
  have e0 : e = xs 128 fun i => if e.testBit i then 2 ^ i else 0 := by rw [xs_bits, Nat.mod_eq_of_lt he]
  have e1 : sq e ^^^ e = xs 128 fun i => (fun v => sq v ^^^ v) (if e.testBit i then 2 ^ i else 0) := by
    rw [← lin.xs pw, ← e0]
  rw [e1, un_lin.xs (fun i hi => lin.lt _ (pw i hi))]
  refine xs_congr fun i hi => ?_
  rw [lin.ite, un_lin.ite]
  cases e.testBit i
  · rfl
  · simp only [if_true]
    have := un_base i hi
    rw [times_gm _ _ (Nat.pow_lt_pow_right (by decide) hi)] at this
    exact this
theorem zero_tail (e : Nat) : ∀ n, xs (n + 1) (fun j => if e.testBit j then (if j = 0 then 0 else 2 ^ j) else 0) = (xs (n + 1) fun j => if e.testBit j then 2 ^ j else 0) ^^^ (if e.testBit 0 then 1 else 0)
  | 0 => by
    simp only [xs]
    cases e.testBit 0 <;> rfl
  | n + 1 => by
    have ih := zero_tail e n
    rw [xs, ih, show (xs (n + 1 + 1) fun j => if e.testBit j then 2 ^ j else 0) = (xs (n + 1) fun j => if e.testBit j then 2 ^ j else 0) ^^^ (if e.testBit (n + 1) then 2 ^ (n + 1) else 0) from rfl]
    simp only [Nat.add_one_ne_zero, if_false]
    generalize (xs (n + 1) fun j => if e.testBit j then 2 ^ j else 0) = q
    generalize (if e.testBit (n + 1) then 2 ^ (n + 1) else 0) = y
    generalize (if e.testBit 0 then 1 else 0) = z
    ac_rfl
/-- what is its own square is 0 or 1 -/
theorem fixed (e : Nat) (he : e < 2 ^ 128) (h : sq e = e) : e = 0 ∨ e = 1 := by
  have h1 := un_sq e he
  rw [h, Nat.xor_self, un_lin.zero, zero_tail e 127, xs_bits, Nat.mod_eq_of_lt he] at h1
  cases hb : e.testBit 0
  · rw [hb] at h1
    simp at h1
    exact .inl h1.symm
  · rw [hb] at h1
    simp only [if_true] at h1
    right
    have : e ^^^ (e ^^^ 1) = e ^^^ 0 := by rw [← h1]
    rw [← Nat.xor_assoc, Nat.xor_self, Nat.zero_xor, Nat.xor_zero] at this
    exact this.symm

/-! the power 2^n - 1 -/
def px (A : Nat) : Nat → Nat
  | 0 => 1
  | n + 1 => tg (px A n) (it sq n A)
theorem px_lt (A : Nat) (hA : A < 2 ^ 128) : ∀ n, px A n < 2 ^ 128
  | 0 => by show 1 < 2 ^ 128; decide
  | n + 1 => tg_lt _ _ (px_lt A hA n)
theorem px_mul (A : Nat) (hA : A < 2 ^ 128) : ∀ n, tg A (px A n) = it sq n A
  | 0 => tg_one A hA
  | n + 1 => by
    rw [px, ← tg_assoc A _ _ hA (px_lt A hA n) ((sq_lin.iter n).lt A hA), px_mul A hA n]; rfl
/-- all but the first factor -/
theorem px_head (A : Nat) (hA : A < 2 ^ 128) : ∀ n, ∃ D, D < 2 ^ 128 ∧ px A (n + 1) = tg A D
  | 0 => ⟨1, by decide, tg_comm 1 A (by decide) hA⟩
  | n + 1 => by
    obtain ⟨D, hD, e⟩ := px_head A hA n
    refine ⟨tg D (it sq (n + 1) A), tg_lt _ _ hD, ?_⟩
    rw [px, e, tg_assoc A D _ hA hD ((sq_lin.iter _).lt A hA)]
/-- what is not zero has an inverse: its power 2^128 - 1 is one -/
theorem px_one (A : Nat) (hA : A < 2 ^ 128) (h0 : A ≠ 0) : px A 128 = 1 := by
  have hm : tg A (px A 128) = A := by rw [px_mul A hA, frob A hA]
  have hl := px_lt A hA 128
  obtain ⟨D, hD, e⟩ := px_head A hA 127
  have hid : sq (px A 128) = px A 128 := by
    unfold sq
    conv => lhs; arg 2; rw [e]
    rw [← tg_assoc _ A D hl hA hD, tg_comm _ A hl hA, hm, ← e]
  rcases fixed _ hl hid with h | h
  · rw [h, tg_zero] at hm
    exact absurd hm.symm h0
  · exact h

/-! the program's Times: the bytes the other way round -/
def tm (a b : Nat) : Nat := revN (tg (revN a) (revN b))
theorem tm_lt (a b : Nat) : tm a b < 2 ^ 128 := revN_lt _
theorem rev_tm (a b : Nat) : revN (tm a b) = tg (revN a) (revN b) := rev_rev _ (tg_lt _ _ (revN_lt a))
theorem times_tm (a b : Nat) : revN (timesN (revN a) (revN b) 128) = tm a b := by rw [times_gm _ _ (revN_lt a)]; rfl
theorem tm_comm (a b : Nat) : tm a b = tm b a := by unfold tm; rw [tg_comm _ _ (revN_lt a) (revN_lt b)]
theorem tm_assoc (a b c : Nat) : tm (tm a b) c = tm a (tm b c) := by
  unfold tm
  rw [rev_rev _ (tg_lt _ _ (revN_lt a)), rev_rev _ (tg_lt _ _ (revN_lt b)), tg_assoc _ _ _ (revN_lt a) (revN_lt b) (revN_lt c)]
theorem tm_right (a b c : Nat) : tm a (b ^^^ c) = tm a b ^^^ tm a c := by unfold tm; rw [rev_xor, tg_right, rev_xor]
theorem rev_one : revN (2 ^ 120) = 1 := by decide +kernel
theorem rev_zero : revN 0 = 0 := by decide +kernel
theorem rev_two : revN (2 ^ 121) = 2 := by decide +kernel
theorem one_rev : revN 1 = 2 ^ 120 := by decide +kernel
theorem tm_one (a : Nat) (ha : a < 2 ^ 128) : tm a (2 ^ 120) = a := by unfold tm; rw [rev_one, tg_one _ (revN_lt a), rev_rev a ha]
theorem tm_zero (a : Nat) : tm a 0 = 0 := by unfold tm; rw [rev_zero, tg_zero, rev_zero]
theorem tm_two (a : Nat) : tm a (2 ^ 121) = revN (dblN (revN a)) := by unfold tm; rw [rev_two, tg_two _ (revN_lt a)]
/-- turned (Double a) is the product of turned a with x -/
theorem double_tm (a : Nat) (ha : a < 2 ^ 128) : revN (dblN a) = tm (revN a) (2 ^ 121) := by rw [tm_two, rev_rev a ha]
/-- the loop's two numbers -/
def ly (a : Nat) : Nat → Nat
  | 0 => a
  | n + 1 => tm (ly a n) (ly a n)
def lx (a : Nat) : Nat → Nat
  | 0 => 2 ^ 120
  | n + 1 => tm (lx a n) (ly a n)
theorem ly_lt (a : Nat) (ha : a < 2 ^ 128) : ∀ n, ly a n < 2 ^ 128
  | 0 => ha
  | _ + 1 => tm_lt _ _
theorem lx_lt (a : Nat) : ∀ n, lx a n < 2 ^ 128
  | 0 => by simp [lx]
  | _ + 1 => tm_lt _ _
theorem ly_rev (a : Nat) (ha : a < 2 ^ 128) : ∀ n, revN (ly a n) = it sq n (revN a)
  | 0 => rfl
  | n + 1 => by rw [ly, rev_tm, ly_rev a ha n]; rfl
theorem lx_rev (a : Nat) (ha : a < 2 ^ 128) : ∀ n, revN (lx a n) = px (revN a) n
  | 0 => rev_one
  | n + 1 => by rw [lx, rev_tm, lx_rev a ha n, ly_rev a ha n]; rfl
theorem ly_end (a : Nat) (ha : a < 2 ^ 128) : ly a 128 = a := by
  rw [← rev_rev _ (ly_lt a ha 128), ly_rev a ha, frob _ (revN_lt a), rev_rev a ha]
theorem lx_end (a : Nat) (ha : a < 2 ^ 128) (h0 : a ≠ 0) : lx a 128 = 2 ^ 120 := by
  have h1 : revN a ≠ 0 := fun h => h0 (by rw [← rev_rev a ha, h, rev_zero])
  rw [← rev_rev _ (lx_lt a 128), lx_rev a ha, px_one _ (revN_lt a) h1, one_rev]
end Go.Proofs.Ytfchbodbkdkcfaa.Frob
