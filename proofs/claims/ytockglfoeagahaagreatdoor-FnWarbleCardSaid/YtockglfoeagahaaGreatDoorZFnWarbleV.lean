/- Contracts and plain facts, joined: WarbN. -/
import Derived.Test.YtockglfoeagahaaGreatDoorRows
import Derived.Test.YtockglfoeagahaaGreatDoorZFnWarbleI
import Derived.Test.YtockglfoeagahaaGreatDoorZFnWarbleK
import Derived.Test.YtockglfoeagahaaGreatDoorZFnWarbleU
namespace Go.Proofs.YtockglfoeagahaaGreatDoor
open Go.ChangeShapes Go.WideShapes Go.ChangeAt Go.RowKit Go.Deep Go.Joins
set_option linter.unusedVariables false
set_option maxRecDepth 100000
set_option linter.unusedSimpArgs false
/-- the sines of the even angles, 21 bits each, a million added -/
def sPk : Nat := 3600200319704504841621972998397004391666467073302247194416328490861789766129658609255431466247471435526506079165807053032251563766432029607769249685964132948758967552747793351772418934586624189836052583457137175586038369922427882436032660415464447624774003265772777954864272068119022923675485761117581015214490648625448985339365168678921136536702362719174436072427990085378334025563505551620915893869615845175437215383757527956536145211956052922314131861328568606669707199001636065622103333015888626318372624458689125925282594518287211859712858369656239593841712800045516917917115435410608147741860215115931766874616088853976641767321692352417018956818987258673234593287940477794340045062728615863598129577423070089933505793558268723870870064581026652859597456391516123015813821295339002255710448616669069579674939591823146566719065034734240897850253697001276190751412271356666941658189411716427298561033668616639848801998449707181444207582811865065376197263748244560137627502870418737239052328393165164384842629179308936785930598715241096804351511821061592972144878018254749432343419489909009411135608824090149222625499140873992614658624
/-- the cosines of the even angles times 10^10, 35 bits each, 10^10 added -/
def cPk : Nat := 1793992116003979561889628653735011954988454433577061455967758185574922560061486622952315069649002356746994737983152397559687080416297113900816642123170022390155526381791269567302262799173604127048123752761367906997243527435456621568173658215510267187542754437598262346554426821796145778244237729895766299625085667198540652234418320808654625407147884541244780195471063818362328801328024946723871898345129547921367558887039979757805356941721520051238724657848541421286112493398643932939610744111048959610695629481110938037435637412046961659193505851059848711437511416210300333218173752828296293225969674120428064413403295418152054701574015084563459967553251615959777712454620838520105292983490602420818690961424955194403702762961315333125498161596998295813263062496706512465419619700189360975938155342483893200682561212073006952587294223392476843799629769887236889175087786491754116433151952089775111746388843271688984268078740202342644671879774448347165214102071793272525173155318892534381234077753843355548169421334677620577617426816908642775125965127469853491327289309939531802313204443973673882952112756486479293010333483255387912604090042752709735740289126553386170839733070438398579591732578824968222004373713361918381669926830613894926665765498568622019608108246005576367235156240447564437771313522227406137460582743857045550201081608082391682343288650220977027204515957396182281207556248932796271313084856310015923653228472024280082312681384407349352330020745746377739169070820199250700415685554459432076878029074540299963798832894545231899789895186078393626235823009261100128626325701441549388255230505543940038441017887801488161114530374789890629262137705414753440538272781513842277170568490344839157020006770558224413485765425638540298257397961939021849826168817525646751646719317242810971129968401310426113242592694693197561932140866961253008770360068064684941464585352958815977417984000
/-- the sines of the even angles times 10^10, 35 bits each, 10^10 added -/
def dPk : Nat := 865955105269620578070088814635124514541140711192294056077284191301744472539907744934897203892910468397264868298365224124079643247542805665234066813076976195546194252217342398251816311691869660613715305531615427668356133261470376874862365134245161655443063723811370935040695123257795018760394706999558648751743476084045570008075378988506344245854324232956295475079253280822368291754872596990647674934909048862291429863147745014545073438537296226701775204530911157441004985505924663896618156684494405439231895560401980681391099054932472104908296957157228156702246163708947924035726187320743810102243840454450447087561216781266088531699517004436122990165983273579024583999494677417286741720710302421976534709343678416120165638923648045689410733989525527680333423894187115847942045876159442475241174260675716368231519674768066634527665052619663659497229087301050103107299078591116259332706643826678925487491419059444668079792319355196762177375035005782854081899960108858719910686397407314822715027197875588691346978717723937780960442785780924914642467206274048201991145049382829766547462690021205297939068642396193133126530853691697617790112041250507272989143784816292994736052792236964521234154311055364127851453241146345467476561954669656939440310423377876021530146340600962682740688967257169745464050883272172624164813140797529416687394945261024103222722678436804859451087284550794756629373011644226333784545305496687097018055180390711266726787427863112242152873880159449326617637475534813619734149485125392873177586167258191457805746155932752980369479649009586837313574584068937129098182269585786560628664666082784788943417711253707213811523841238836675473132471989189105033196502790596006291137557382169654035820066706547049159279843396747312985492967418932220725284164644714205618732498979829062580823085040268359617044228841956305584498417772947769422367932664443050530937137470493603436160000
def sI (t : Nat) : Nat := (sPk >>> (21 * t)) % 2097152
def cR (t : Nat) : Nat := (cPk >>> (35 * t)) % 34359738368
def sR (t : Nat) : Nat := (dPk >>> (35 * t)) % 34359738368
def tab180 : Nat → Bool
  | 0 => true
  | t + 1 => tab180 t && decide (sinN (2 * t) + 1000000 = (sI t : Int))
theorem tab180_ok : tab180 180 = true := by decide +kernel
theorem tab180_all : ∀ n, tab180 n = true → ∀ t, t < n → sinN (2 * t) + 1000000 = (sI t : Int)
  | 0, _, _, h => by omega
  | n + 1, h, t, ht => by
    rw [tab180, Bool.and_eq_true] at h
    rcases Nat.lt_or_eq_of_le (Nat.le_of_lt_succ ht) with h1 | h1
    · exact tab180_all n h.1 t h1
    · subst h1; exact of_decide_eq_true h.2
def len180 : Nat → Bool
  | 0 => true
  | t + 1 => len180 t && Nat.ble (cR t * cR t + sR t * sR t + 200000000000000000000) (100000000010726058301 + 20000000000 * (cR t + sR t)) &&
      Nat.ble (cR t + sR t) 34139981708 && Nat.ble 5860018292 (cR t + sR t) && Nat.ble (cR t) (sR t + 14139981708) && Nat.ble (sR t) (cR t + 14139981708)
theorem len180_ok : len180 180 = true := by decide +kernel
theorem len180_all : ∀ n, len180 n = true → ∀ t, t < n → cR t * cR t + sR t * sR t + 200000000000000000000 ≤ 100000000010726058301 + 20000000000 * (cR t + sR t) ∧ cR t + sR t ≤ 34139981708 ∧ 5860018292 ≤ cR t + sR t ∧ cR t ≤ sR t + 14139981708 ∧ sR t ≤ cR t + 14139981708
  | 0, _, _, h => by omega
  | n + 1, h, t, ht => by
    simp only [len180, Bool.and_eq_true] at h
    rcases Nat.lt_or_eq_of_le (Nat.le_of_lt_succ ht) with h1 | h1
    · exact len180_all n h.1.1.1.1.1 t h1
    · subst h1
      exact ⟨Nat.le_of_ble_eq_true h.1.1.1.1.2, Nat.le_of_ble_eq_true h.1.1.1.2, Nat.le_of_ble_eq_true h.1.1.2, Nat.le_of_ble_eq_true h.1.2, Nat.le_of_ble_eq_true h.2⟩
/-- two angles: the sines c, s of one, the rotation r, q, and the sines C, S of the sum -/
def chk4 (c s r q C S : Nat) : Bool :=
  Nat.ble (10000000000 * C + c * 10000000000 + 1000000 * r + s * q) (10000000000 * 1000000 + c * r + s * 10000000000 + 1000000 * q + 10771003236) &&
  Nat.ble (10000000000 * 1000000 + c * r + s * 10000000000 + 1000000 * q) (10000000000 * C + c * 10000000000 + 1000000 * r + s * q + 10771003236) &&
  Nat.ble (10000000000 * S + s * 10000000000 + 1000000 * r + c * 10000000000 + 1000000 * q) (10000000000 * 1000000 + s * r + c * q + 20000000000 * 1000000 + 10771003236) &&
  Nat.ble (10000000000 * 1000000 + s * r + c * q + 20000000000 * 1000000) (10000000000 * S + s * 10000000000 + 1000000 * r + c * 10000000000 + 1000000 * q + 10771003236)
def chkRow (r q b : Nat) : Nat → Bool
  | 0 => true
  | a + 1 => chkRow r q b a && chk4 (sI ((a + 45) % 180)) (sI a) r q (sI ((a + b + 45) % 180)) (sI ((a + b) % 180))
def chkAll : Nat → Bool
  | 0 => true
  | b + 1 => chkAll b && chkRow (cR b) (sR b) b 180
theorem chkAll_ok : chkAll 180 = true := by decide +kernel
theorem chkRow_all (r q b : Nat) : ∀ n, chkRow r q b n = true → ∀ a, a < n → chk4 (sI ((a + 45) % 180)) (sI a) r q (sI ((a + b + 45) % 180)) (sI ((a + b) % 180)) = true
  | 0, _, _, h => by omega
  | n + 1, h, a, ha => by
    rw [chkRow, Bool.and_eq_true] at h
    rcases Nat.lt_or_eq_of_le (Nat.le_of_lt_succ ha) with h1 | h1
    · exact chkRow_all r q b n h.1 a h1
    · subst h1; exact h.2
theorem chkAll_all : ∀ n, chkAll n = true → ∀ b, b < n → chkRow (cR b) (sR b) b 180 = true
  | 0, _, _, h => by omega
  | n + 1, h, b, hb => by
    rw [chkAll, Bool.and_eq_true] at h
    rcases Nat.lt_or_eq_of_le (Nat.le_of_lt_succ hb) with h1 | h1
    · exact chkAll_all n h.1 b h1
    · subst h1; exact h.2
theorem chk4_ints {c s r q C S : Nat} (h : chk4 c s r q C S = true) :
    (-10771003236 ≤ 10000000000 * ((C : Int) - 1000000) - (((c : Int) - 1000000) * ((r : Int) - 10000000000) - ((s : Int) - 1000000) * ((q : Int) - 10000000000)) ∧
      10000000000 * ((C : Int) - 1000000) - (((c : Int) - 1000000) * ((r : Int) - 10000000000) - ((s : Int) - 1000000) * ((q : Int) - 10000000000)) ≤ 10771003236) ∧
    (-10771003236 ≤ 10000000000 * ((S : Int) - 1000000) - (((s : Int) - 1000000) * ((r : Int) - 10000000000) + ((c : Int) - 1000000) * ((q : Int) - 10000000000)) ∧
      10000000000 * ((S : Int) - 1000000) - (((s : Int) - 1000000) * ((r : Int) - 10000000000) + ((c : Int) - 1000000) * ((q : Int) - 10000000000)) ≤ 10771003236) := by
  simp only [chk4, Bool.and_eq_true] at h
  obtain ⟨⟨⟨h1, h2⟩, h3⟩, h4⟩ := h
  have h1 := Int.ofNat_le.2 (Nat.le_of_ble_eq_true h1)
  have h2 := Int.ofNat_le.2 (Nat.le_of_ble_eq_true h2)
  have h3 := Int.ofNat_le.2 (Nat.le_of_ble_eq_true h3)
  have h4 := Int.ofNat_le.2 (Nat.le_of_ble_eq_true h4)
  simp only [Int.natCast_add, Int.natCast_mul, Int.cast_ofNat_Int] at h1 h2 h3 h4
  have e1 : ((c : Int) - 1000000) * ((r : Int) - 10000000000) = (c : Int) * r - 10000000000 * c - 1000000 * r + 10000000000000000 := by grind
  have e2 : ((s : Int) - 1000000) * ((q : Int) - 10000000000) = (s : Int) * q - 10000000000 * s - 1000000 * q + 10000000000000000 := by grind
  have e3 : ((s : Int) - 1000000) * ((r : Int) - 10000000000) = (s : Int) * r - 10000000000 * s - 1000000 * r + 10000000000000000 := by grind
  have e4 : ((c : Int) - 1000000) * ((q : Int) - 10000000000) = (c : Int) * q - 10000000000 * c - 1000000 * q + 10000000000000000 := by grind
  rw [e1, e2, e3, e4]
  generalize (c : Int) * r = m1 at *
  generalize (s : Int) * q = m2 at *
  generalize (s : Int) * r = m3 at *
  generalize (c : Int) * q = m4 at *
  omega
/-- the index of an even angle -/
def ix (u : Int) : Nat := (u % 180).toNat
theorem ix_lt (u : Int) : ix u < 180 := by unfold ix; omega
theorem sine_even (u : Int) : sineS (2 * u) = (sI (ix u) : Int) - 1000000 := by
  have h := tab180_all 180 tab180_ok (ix u) (ix_lt u)
  unfold sineS
  rw [show ((2 * u) % 360).toNat = 2 * ix u by unfold ix; omega]
  omega
theorem cos_even (u : Int) : cosS (2 * u) = (sI ((ix u + 45) % 180) : Int) - 1000000 := by
  have h := tab180_all 180 tab180_ok ((ix u + 45) % 180) (by omega)
  unfold cosS sineS
  rw [show ((2 * u + 90) % 360).toNat = 2 * ((ix u + 45) % 180) by unfold ix; omega]
  omega
def cT (v : Int) : Int := (cR (ix v) : Int) - 10000000000
def sT (v : Int) : Int := (sR (ix v) : Int) - 10000000000
theorem rot_bd (v : Int) : cT v * cT v + sT v * sT v ≤ 100000000010726058301 ∧ (-14139981708 ≤ cT v + sT v ∧ cT v + sT v ≤ 14139981708) ∧ (-14139981708 ≤ cT v - sT v ∧ cT v - sT v ≤ 14139981708) := by
  obtain ⟨h1, h2, h3, h4, h5⟩ := len180_all 180 len180_ok (ix v) (ix_lt v)
  unfold cT sT
  generalize cR (ix v) = r at *
  generalize sR (ix v) = q at *
  have h1 := Int.ofNat_le.2 h1
  simp only [Int.natCast_add, Int.natCast_mul, Int.cast_ofNat_Int] at h1
  have e1 : ((r : Int) - 10000000000) * ((r : Int) - 10000000000) = (r : Int) * r - 20000000000 * r + 100000000000000000000 := by grind
  have e2 : ((q : Int) - 10000000000) * ((q : Int) - 10000000000) = (q : Int) * q - 20000000000 * q + 100000000000000000000 := by grind
  rw [e1, e2]
  generalize (r : Int) * r = m1 at *
  generalize (q : Int) * q = m2 at *
  omega
theorem rot (u v : Int) :
    (-10771003236 ≤ 10000000000 * cosS (2 * (u + v)) - (cosS (2 * u) * cT v - sineS (2 * u) * sT v) ∧ 10000000000 * cosS (2 * (u + v)) - (cosS (2 * u) * cT v - sineS (2 * u) * sT v) ≤ 10771003236) ∧
    (-10771003236 ≤ 10000000000 * sineS (2 * (u + v)) - (sineS (2 * u) * cT v + cosS (2 * u) * sT v) ∧ 10000000000 * sineS (2 * (u + v)) - (sineS (2 * u) * cT v + cosS (2 * u) * sT v) ≤ 10771003236) := by
  have h := chk4_ints (chkRow_all _ _ _ 180 (chkAll_all 180 chkAll_ok (ix v) (ix_lt v)) (ix u) (ix_lt u))
  rw [sine_even, sine_even, cos_even, cos_even]
  rw [show ix (u + v) = (ix u + ix v) % 180 by unfold ix; omega, show ((ix u + ix v) % 180 + 45) % 180 = (ix u + ix v + 45) % 180 by omega]
  exact h
theorem sineS_more (a k : Int) : sineS (a - 360 * k) = sineS a := by
  unfold sineS
  rw [show (a - 360 * k) % 360 = a % 360 by omega]
theorem cosS_more (a k : Int) : cosS (a - 360 * k) = cosS a := by
  unfold cosS
  rw [show a - 360 * k + 90 = a + 90 - 360 * k by omega, sineS_more]
/-- the angle of a turned spot, times the waves -/
theorem tA_even (n d : Int) (x : Spot) : ∃ k, 2 * n * (tA d x).angle = 2 * (n * x.angle + n * d) - 360 * k := by
  refine ⟨2 * n * ((x.angle + d) / 360), ?_⟩
  have e : (tA d x).angle = x.angle + d - 360 * ((x.angle + d) / 360) := by unfold tA; simp only; omega
  rw [e]
  generalize (x.angle + d) / 360 = q
  grind
theorem err_one {w e : Int} (hw : -1000 ≤ w ∧ w ≤ 1000) (he : -10771003236 ≤ e ∧ e ≤ 10771003236) : -10771003236000 ≤ w * e ∧ w * e ≤ 10771003236000 := by
  have := abs_mul (m := 1000) (n := 10771003236) hw he
  omega
theorem wsum_cons (f : Int → Int) (n : Int) (x : Spot) (xs : List Spot) : wsum f n (x :: xs) = x.weight * f (2 * n * x.angle) + wsum f n xs := by simp [wsum]
theorem wsum_turn (n d : Int) : ∀ (xs : List Spot), (∀ x ∈ xs, spotB x = true) →
    (-(xs.length * 10771003236000) ≤ 10000000000 * wsum cosS n (xs.map (tA d)) - (wsum cosS n xs * cT (n * d) - wsum sineS n xs * sT (n * d)) ∧ 10000000000 * wsum cosS n (xs.map (tA d)) - (wsum cosS n xs * cT (n * d) - wsum sineS n xs * sT (n * d)) ≤ xs.length * 10771003236000) ∧
    (-(xs.length * 10771003236000) ≤ 10000000000 * wsum sineS n (xs.map (tA d)) - (wsum sineS n xs * cT (n * d) + wsum cosS n xs * sT (n * d)) ∧ 10000000000 * wsum sineS n (xs.map (tA d)) - (wsum sineS n xs * cT (n * d) + wsum cosS n xs * sT (n * d)) ≤ xs.length * 10771003236000)
  | [], _ => by simp [wsum]
  | x :: xs, h => by
    have ih := wsum_turn n d xs (fun y hy => h y (List.mem_cons_of_mem _ hy))
    have hw := (spotB_nums (h x (List.mem_cons_self ..))).2
    obtain ⟨k, hk⟩ := tA_even n d x
    have r := rot (n * x.angle) (n * d)
    have r1 := err_one hw r.1
    have r2 := err_one hw r.2
    rw [List.map_cons, wsum_cons, wsum_cons, wsum_cons, wsum_cons, hk, cosS_more, sineS_more, List.length_cons, show 2 * n * x.angle = 2 * (n * x.angle) by grind]
    rw [show (tA d x).weight = x.weight from rfl]
    generalize cosS (2 * (n * x.angle + n * d)) = c1 at *
    generalize sineS (2 * (n * x.angle + n * d)) = s1 at *
    generalize cosS (2 * (n * x.angle)) = c0 at *
    generalize sineS (2 * (n * x.angle)) = s0 at *
    generalize cT (n * d) = p at *
    generalize sT (n * d) = q at *
    generalize wsum cosS n (xs.map (tA d)) = C1 at *
    generalize wsum sineS n (xs.map (tA d)) = S1 at *
    generalize wsum cosS n xs = C0 at *
    generalize wsum sineS n xs = S0 at *
    generalize x.weight = w at *
    have e1 : 10000000000 * (w * c1 + C1) - ((w * c0 + C0) * p - (w * s0 + S0) * q) = w * (10000000000 * c1 - (c0 * p - s0 * q)) + (10000000000 * C1 - (C0 * p - S0 * q)) := by grind
    have e2 : 10000000000 * (w * s1 + S1) - ((w * s0 + S0) * p + (w * c0 + C0) * q) = w * (10000000000 * s1 - (s0 * p + c0 * q)) + (10000000000 * S1 - (S0 * p + C0 * q)) := by grind
    rw [e1, e2]
    push_cast
    omega
theorem perm_sum {l1 l2 : List Int} (h : l1.Perm l2) : l1.sum = l2.sum := by
  induction h with
  | nil => rfl
  | cons x _ ih => simp [ih]
  | swap x y l => simp; omega
  | trans _ _ a b => exact a.trans b
theorem wsum_perm (f : Int → Int) (n : Int) {xs ys : List Spot} (h : xs.Perm ys) : wsum f n xs = wsum f n ys := by
  unfold wsum
  exact perm_sum (h.map _)
theorem divR_near (a : Int) : -500 ≤ a - 1000 * divR a 1000 ∧ a - 1000 * divR a 1000 ≤ 500 := by
  unfold divR
  split <;> omega
theorem abs_of_sq {a b : Int} (hb : 0 ≤ b) (h : a * a ≤ b * b) : a ≤ b := by
  rcases Int.lt_or_le b a with h1 | h1
  · have := Int.mul_self_lt_mul_self hb h1
    omega
  · exact h1
theorem sq_nn (a : Int) : 0 ≤ a * a := by
  rcases Int.le_total 0 a with h | h
  · exact Int.mul_nonneg h h
  · have := Int.mul_nonneg (a := -a) (b := -a) (by omega) (by omega)
    rw [Int.neg_mul_neg] at this; exact this
/-- two rotated sums and what they are rounded to -/
theorem near_rot {a b c s p q P e : Int} (hp : -500 ≤ a - 1000 * p ∧ a - 1000 * p ≤ 500) (hq : -500 ≤ b - 1000 * q ∧ b - 1000 * q ≤ 500)
    (h1 : -14139981708 ≤ c + s ∧ c + s ≤ 14139981708) (h2 : -14139981708 ≤ c - s ∧ c - s ≤ 14139981708)
    (hP : -500 ≤ e - 1000 * P ∧ e - 1000 * P ≤ 500) (he : -172336051776000 ≤ 10000000000 * e - (a * c - b * s) ∧ 10000000000 * e - (a * c - b * s) ≤ 172336051776000) :
    -184406100000 ≤ 10000000000 * P - (p * c - q * s) ∧ 10000000000 * P - (p * c - q * s) ≤ 184406100000 := by
  have k : -7069990854000 ≤ (a - 1000 * p) * c - (b - 1000 * q) * s ∧ (a - 1000 * p) * c - (b - 1000 * q) * s ≤ 7069990854000 := by
    generalize a - 1000 * p = x at *
    generalize b - 1000 * q = y at *
    have m1 := abs_mul (m := 1000) (n := 14139981708) (a := x + y) (b := c - s) (by omega) h2
    have m2 := abs_mul (m := 1000) (n := 14139981708) (a := x - y) (b := c + s) (by omega) h1
    have e : 2 * (x * c - y * s) = (x + y) * (c - s) + (x - y) * (c + s) := by grind
    have k1 : ∀ z t : Int, -500 ≤ z ∧ z ≤ 500 → (-14139981708 ≤ t ∧ t ≤ 14139981708) → -7069990854000 ≤ z * t ∧ z * t ≤ 7069990854000 := fun z t hz ht => by
      have := abs_mul (m := 500) (n := 14139981708) hz ht
      omega
    have ca : ∃ C S : Int, (C = c ∨ C = -c) ∧ (S = s ∨ S = -s) ∧ 0 ≤ C ∧ 0 ≤ S := ⟨c.natAbs, s.natAbs, by omega, by omega, by omega, by omega⟩
    obtain ⟨C, S, hC, hS, hC0, hS0⟩ := ca
    have hCS : C + S ≤ 14139981708 := by omega
    have x1 : -(500 * C) ≤ x * C ∧ x * C ≤ 500 * C := abs_mul (m := 500) (n := C) hp ⟨by omega, Int.le_refl _⟩
    have y1 : -(500 * S) ≤ y * S ∧ y * S ≤ 500 * S := abs_mul (m := 500) (n := S) hq ⟨by omega, Int.le_refl _⟩
    have x2 : x * c = x * C ∨ x * c = -(x * C) := by
      rcases hC with h | h
      · left; rw [h]
      · right; rw [h, Int.mul_neg, Int.neg_neg]
    have y2 : y * s = y * S ∨ y * s = -(y * S) := by
      rcases hS with h | h
      · left; rw [h]
      · right; rw [h, Int.mul_neg, Int.neg_neg]
    generalize x * C = u at *
    generalize y * S = v at *
    omega
  have e2 : 1000 * (10000000000 * P - (p * c - q * s)) = (10000000000 * e - (a * c - b * s)) - 10000000000 * (e - 1000 * P) + ((a - 1000 * p) * c - (b - 1000 * q) * s) := by grind
  generalize (a - 1000 * p) * c - (b - 1000 * q) * s = m at *
  generalize p * c - q * s = m2 at *
  generalize a * c - b * s = m3 at *
  omega
/-- a rotation with small errors adds little to a length -/
theorem len_rot {p q c s P Q r r1 : Int} (hr : IsRoot (p * p + q * q) r) (hr1 : IsRoot (P * P + Q * Q) r1) (hb : r ≤ 1000000000)
    (hcs : c * c + s * s ≤ 100000000010726058301)
    (h1 : -184406100000 ≤ 10000000000 * P - (p * c - q * s) ∧ 10000000000 * P - (p * c - q * s) ≤ 184406100000)
    (h2 : -184406100000 ≤ 10000000000 * Q - (q * c + p * s) ∧ 10000000000 * Q - (q * c + p * s) ≤ 184406100000) : r1 ≤ r + 40 := by
  obtain ⟨a0, a1, a2⟩ := hr
  obtain ⟨b0, b1, b2⟩ := hr1
  obtain ⟨R, hR⟩ : ∃ R, R = r + 1 := ⟨_, rfl⟩
  rw [← hR] at a2
  obtain ⟨X, hX⟩ : ∃ X, X = p * c - q * s := ⟨_, rfl⟩
  obtain ⟨Y, hY⟩ : ∃ Y, Y = q * c + p * s := ⟨_, rfl⟩
  rw [← hX] at h1
  rw [← hY] at h2
  obtain ⟨g1, hg1⟩ : ∃ g1, g1 = 10000000000 * P - X := ⟨_, rfl⟩
  obtain ⟨g2, hg2⟩ : ∃ g2, g2 = 10000000000 * Q - Y := ⟨_, rfl⟩
  rw [← hg1] at h1
  rw [← hg2] at h2
  have eXY : X * X + Y * Y = (p * p + q * q) * (c * c + s * s) := by grind
  have hRR := sq_nn R
  have k1 : X * X + Y * Y ≤ (R * 10000000001) * (R * 10000000001) := by
    have m : (p * p + q * q) * (c * c + s * s) ≤ (R * R) * 100000000020000000001 :=
      Int.mul_le_mul (by omega) (by omega) (by have := sq_nn c; have := sq_nn s; omega) hRR
    have e : (R * 10000000001) * (R * 10000000001) = (R * R) * 100000000020000000001 := by grind
    omega
  have k2 : g1 * g1 + g2 * g2 ≤ 260790000000 * 260790000000 := by
    have m1 := abs_mul h1 h1
    have m2 := abs_mul h2 h2
    omega
  have hR0 : 0 ≤ R := by omega
  have lag : (g1 * X + g2 * Y) * (g1 * X + g2 * Y) + (g1 * Y - g2 * X) * (g1 * Y - g2 * X) = (g1 * g1 + g2 * g2) * (X * X + Y * Y) := by grind
  have k3 : g1 * X + g2 * Y ≤ 260790000000 * (R * 10000000001) := by
    refine abs_of_sq (by omega) ?_
    have m := Int.mul_le_mul k2 k1 (by have := sq_nn X; have := sq_nn Y; omega) (by decide)
    have e : (260790000000 * (R * 10000000001)) * (260790000000 * (R * 10000000001)) = (260790000000 * 260790000000) * ((R * 10000000001) * (R * 10000000001)) := by grind
    have z := sq_nn (g1 * Y - g2 * X)
    omega
  have e5 : (10000000000 * P) * (10000000000 * P) + (10000000000 * Q) * (10000000000 * Q) = (X * X + Y * Y) + 2 * (g1 * X + g2 * Y) + (g1 * g1 + g2 * g2) := by
    have eP : 10000000000 * P = X + g1 := by omega
    have eQ : 10000000000 * Q = Y + g2 := by omega
    rw [eP, eQ]; grind
  have e6 : (10000000000 * P) * (10000000000 * P) + (10000000000 * Q) * (10000000000 * Q) = 100000000000000000000 * (P * P + Q * Q) := by grind
  have e7 : (R * 10000000001 + 260790000000) * (R * 10000000001 + 260790000000) = (R * 10000000001) * (R * 10000000001) + 2 * (260790000000 * (R * 10000000001)) + 260790000000 * 260790000000 := by grind
  have e8 : (10000000000 * r1) * (10000000000 * r1) = 100000000000000000000 * (r1 * r1) := by grind
  have k4 : 10000000000 * r1 ≤ R * 10000000001 + 260790000000 := by
    refine abs_of_sq (by omega) ?_
    rw [e8, e7]
    generalize (R * 10000000001) * (R * 10000000001) = m1 at *
    generalize 260790000000 * (R * 10000000001) = m2 at *
    generalize X * X + Y * Y = m3 at *
    generalize g1 * X + g2 * Y = m4 at *
    generalize g1 * g1 + g2 * g2 = m5 at *
    generalize P * P + Q * Q = m6 at *
    generalize r1 * r1 = m7 at *
    omega
  omega
end Go.Proofs.YtockglfoeagahaaGreatDoor
