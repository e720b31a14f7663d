/- All functions. -/
import Derived.Test.YtjnbpdkoeojgiaaGreatFin28zb
